import Derived.Test.YtippdjmpkafifaaGreatCR12
import Derived.Test.YtippdjmpkafifaaGreatCR11
import Derived.Test.YtippdjmpkafifaaGreatCR10
set_option maxRecDepth 100000
set_option maxHeartbeats 64000000
namespace Go.Proofs.YtippdjmpkafifaaGreat
open Go.RowKit
abbrev DU (G0:Nat) (x:Cs) (bP:Addr) (s:Nat) (sS:S):World->Prop:=λw':World=>aJ w' G0 0 x.nd/\bT w' G0 1 x.A x.n x.c/\w'.cell? (bP.add (s * 6))=some (.int .i64 sS.day)/\aJ w' ((bP.add (s * 6)).block) ((bP.add (s * 6)).off + 1) sS.ax/\aJ w' ((bP.add (s * 6)).block) ((bP.add (s * 6)).off + 2) sS.start/\aJ w' ((bP.add (s * 6)).block) ((bP.add (s * 6)).off + 3) sS.end_/\aJ w' ((bP.add (s * 6)).block) ((bP.add (s * 6)).off + 4) sS.aU/\bT w' ((bP.add (s * 6)).block) ((bP.add (s * 6)).off + 5) sS.A sS.n sS.c
namespace A
theorem afZ:∀ b:Fin 7,∀ n:Fin 7,∀ f:Fin 8,(dM b.val n.val f.val).length<=64:=by decide +kernel
theorem DZ {b n f:Nat} (hb:b<=6) (hn:n<=6) (hf:f<=7):(dM b n f).length<=64:=afZ ⟨b,by omega⟩ ⟨n,by omega⟩ ⟨f,by omega⟩
theorem NY (f k:Nat):List.range' f (k + 1)=List.range' f k ++ [f + k]:=by rw [List.range'_concat];simp
end A
def kY (B:Nat) (L:List Sh):Prop:=∀ s ∈ L,0 < s.n->∀ ad,s.A=some ad->B<=ad.block
def F5 (w w':World) (L:List (List Int)) (e:Ending):Prop:=(∃ E m c l,e=.returned (.slice E m c)/\gZ w' E m l/\m<=c/\l.map Sh.l=L/\(∀ ad,E=some ad->w.heap.size<=ad.block)/\kY w.heap.size l)/\af w w'
def iF (w:World) (v:Value) (L:List Sh):Prop:=∀ s ∈ L,(Ints w s.A s.n s.l/\s.n<=s.c/\(s.A=none->s.n=0/\s.c=0))/\(0 < s.n->∀ ad,s.A=some ad->v.ownBlock ≠ some ad.block)
theorem iF.below {w w':World} {v:Value} {L:List Sh} (h:iF w v L) (hb:af w w'):iF w' v L:=λs hs=>⟨⟨(h s hs).1.1.below hb,(h s hs).1.2⟩,(h s hs).2⟩
theorem Df {w:World} {base n:Nat} {v:Value} {L:List Sh} (h:w.ownsRow base 48 1 v n (L.map Sh.val)) (hn:n=L.length) (ho:iF w v L):∃ E c,v=.slice E n c/\gZ w E n L/\n<=c/\∀ ad,E=some ad->base<=ad.block:=by
 have hnw:∀ E c,v=.slice E n c->∀ ad,E=some ad->base<=ad.block:=λE c e ad e2=>by
  obtain ⟨-,-,-,-,h3⟩:=fP h;exact (h3 ad.block (by rw [e,e2];rfl)).1
 rcases Nat.eq_zero_or_pos n with h0 | h0
 ·obtain ⟨A,c,e,hR,-⟩:=fP h;have hc:n<=c:=by omega
  have hL:L=[]:=List.length_eq_zero_iff.1 (by omega);exact ⟨A,c,e,⟨⟨hn,by rw [hL];simp [h0],λh=>absurd h (by omega)⟩,λs hs=>(ho s hs).1⟩,hc,hnw _ _ e⟩
 ·obtain ⟨g,cap,cur,e,-,hc,hr⟩:=adi h h0;exact ⟨_,cap,e,hr.az λs hs=>(ho s hs).1,hc,hnw _ _ e⟩
theorem Qj {ops:Array Oper} {rest:List Oper} {o:Oper} {a:Act} {Q:Exit->Act->World->Prop} {w:World} (hgd:o.guard=none) (s x:Operand)
  (ho:o.op=.call { callee:=.builtin .append,args:=#[s,x],argTypes:=#[97,97] })
  (base:Nat) (v:Value) (n:Nat) (L:List Sh) (hs:a.eval s=v) (hown:w.ownsRow base 48 1 v n (L.map Sh.val)) (g:Nat) (y:Sh) (hx:a.eval x=.slice (some ⟨g,0,none⟩) 1 1)
  (hg:w.heap[g]? = some (.cells #[.slice y.A y.n y.c] 48 (0,0))) (hn:n<=1000000) (hbase:base<=w.heap.size)
  (h:∀ v' w',w'.ownsRow base 48 1 v' (n + 1) ((L ++ [y]).map Sh.val)->w.grownBy w' v.ownBlock->(v'.ownBlock=v.ownBlock\/v'.ownBlock=some w.heap.size)->wpList Tryz.prog ops Q rest (a.put o.dst v') w') :
  wpList Tryz.prog ops Q (o :: rest) a w:=by
 obtain ⟨i0,hi,hz0,hz1,hz2⟩:=info_parts Tryz.info48;refine wpList_append_own_at w hgd s x 97 ho base 48 i0 (.slice none 0 0) 1 24 Tryz.underlying97 hi hz0 hz1 hz2 rfl (by decide) v n (L.map Sh.val) hs hown ⟨g,0,none⟩ 1 1 [y.val] hx rfl ?_ ?_ ?_ ?_ hbase ?_
 ·intro j u hu;rw [lN];exact ah hg j u (by simpa [Sh.val] using hu)
 ·intro u hu;simp at hu;subst hu;rfl
 ·simp only [maxLen];omega
 ·omega
 ·intro v' w' h2 h3 _ h5;exact h v' w' (by rw [eG];exact h2) h3 h5
theorem iF.grow {w w':World} {v v':Value} {L:List Sh} (h:iF w v L) (hg:w.grownBy w' v.ownBlock) (ha:v'.ownBlock=v.ownBlock\/v'.ownBlock=some w.heap.size):iF w' v' L:=λs hs=>by
 obtain ⟨⟨h1,h2⟩,h3⟩:=h s hs;refine ⟨⟨h1.grow hg λh0 ad e e2=>h3 h0 ad e e2.symm,h2⟩,λh0 ad e e2=>?_⟩;rcases ha with e3 | e3
 ·rw [e3] at e2;exact h3 h0 ad e e2
 ·rw [e3] at e2;injection e2 with e2;have:=h1.nD h0 e;omega
theorem iF.snoc {w:World} {v:Value} {L:List Sh} (h:iF w v L) {y:Sh} (h1:Ints w y.A y.n y.l/\y.n<=y.c/\(y.A=none->y.n=0/\y.c=0)) (h2:0 < y.n->∀ ad,y.A=some ad->v.ownBlock ≠ some ad.block):iF w v (L ++ [y]):=λs hs=>by
 rcases dX.1 hs with hs | hs
 ·exact h s hs
 ·rw [dB] at hs;rw [hs];exact ⟨h1,h2⟩
theorem gZ.grown {w w':World} {E:aj} {n:Nat} {l:List Sh} {r:Option Nat} (h:gZ w E n l) (hg:w.grownBy w' r) (hE:0 < n->∀ ad,E=some ad->some ad.block ≠ r) (hs:∀ s ∈ l,0 < s.n->∀ ad,s.A=some ad->some ad.block ≠ r):gZ w' E n l:=by
 refine ⟨⟨h.1.1,h.1.2.1,λh0=>?_⟩,λs hm=>⟨(h.2 s hm).1.grow hg (hs s hm),(h.2 s hm).2⟩⟩;obtain ⟨ad,e,hc⟩:=h.1.2.2 h0;refine ⟨ad,e,λj u hu=>?_⟩;have c:=hc j u hu;exact (lg (hg.block _ (cell_lt c) (by rw [add_block];exact hE h0 ad e))).trans c
theorem kY.mono {B C:Nat} {L:List Sh} (h:kY B L) (hc:C<=B):kY C L:=λs hs h0 ad e=>aN hc (h s hs h0 ad e)
theorem kY.snoc {B:Nat} {L:List Sh} {y:Sh} (h:kY B L) (hy:0 < y.n->∀ ad,y.A=some ad->B<=ad.block):kY B (L ++ [y]):=λs hs=>by
 rcases dX.1 hs with hs | hs
 ·exact h s hs
 ·rw [dB] at hs;rw [hs];exact hy
theorem amH {ops:Array Oper} {rest:List Oper} {o:Oper} {a:Act} {w w2:World} {Q:Exit->Act->World->Prop} (hgd:o.guard=none) (s x:Operand)
  (ho:o.op=.call { callee:=.builtin .append,args:=#[s,x],argTypes:=#[48,48] })
  (g:Nat) (i:Int) (hs:a.eval s=.slice (some ⟨g,0,none⟩) 1 1) (hg:w.heap[g]? = some (.cells #[.int .i64 i] 3 (0,0))) (hb2:af w2 w) (hbg:w2.heap.size<=g)
  {A:aj} {m c:Nat} {l:ag} (hx:a.eval x=.slice A m c) (hI:Ints w2 A m l) (hm:m<=1000000)
  (h:∀ B c w',Ints w' (some B) (m + 1) (i :: l)->m + 1<=c->af w2 w'->w2.heap.size<=B.block->wpList Tryz.prog ops Q rest (a.put o.dst (.slice (some B) (m + 1) c)) w') :
  wpList Tryz.prog ops Q (o :: rest) a w:=by
 obtain ⟨i0,hi,hz0,hz1,hz2⟩:=info_parts Tryz.info3;have hown:w.ownsRow w2.heap.size 3 1 (.slice (some ⟨g,0,none⟩) 1 1) 1 [.int .i64 i]:=⟨rfl,.inr ⟨g,1,_,rfl,hbg,hg,zG _,by simp [maxLen],rfl,rfl⟩⟩;refine nU hgd s x 48 ho w2.heap.size 3 i0 (.int .i64 0) 1 8 Tryz.underlying48 hi hz0 hz1 hz2 rfl (by decide) _ 1 [.int .i64 i] hs hown A m c (intCells l) hx (hI.below hb2).2 (λu hu=>?_) (by simp only [maxLen];omega) (by omega) hb2.size λv' w' h2 h3 h4=>?_
 ·obtain ⟨z,-,rfl⟩:=fE.1 hu;rfl
 ·have e:1 + m=m + 1:=by omega
  rw [e] at h2;have h2':w'.ownsRow w2.heap.size 3 1 v' (m + 1) (intCells (i :: l)):=h2;obtain ⟨-,⟨-,e0⟩ | ⟨g',cap,cur,rfl,hb',hh,hnc,-⟩⟩:=h2
  ·omega
  ·obtain ⟨A',c',e',hI'⟩:=o_ h2' (by rw [dQ,<-hI.1]);injection e' with e1 e2 e3;subst e1 e3;exact h _ _ w' hI' hnc (uU hb2 (zG _) h3 λg' e=>(by have e:some g=some g':=e;injection e with e;omega)) hb'
theorem alL (b:Nat) (hb6:b<=6):∀ (n f:Nat) (w:World),n<=6->f<=7->ay 74 #[.int .i64 f,.int .i64 b,.int .i64 n] w λe w'=>F5 w w' (A.dM b n f) e:=by
 intro n;induction n with
 | zero =>
  intro f w _ hf;have hd:decide ((0:Int)=0)=true:=rfl;go_enter Tryz.func74,Tryz.ntmps74;go_wp2_with fail;go_ret;have hr:pG (w.alloc (.cells #[.slice none 0 0] 48)) w.heap.size 1 #[.slice none 0 0] [⟨none,0,0,[]⟩]:=⟨aA _ _,rfl,λk s hk=>by
   cases k with
   | zero=>simp at hk;subst hk;rfl
   | succ k=>simp at hk⟩
  exact ⟨⟨_,1,1,[⟨none,0,0,[]⟩],rfl,hr.az λs hs=>by rw [dB] at hs;rw [hs];exact ⟨iQ _,zG _,λ_=>⟨rfl,rfl⟩⟩,zG _,rfl,λad e=>(by injection e with e;rw [<-e];exact zG _),λs hs h0=>(by rw [dB] at hs;rw [hs] at h0;exact absurd h0 (by simp))⟩,ai.alloc (zG _) _⟩
 | succ n ih =>
  intro f w hn hf;have hd:decide (((n + 1:Nat):Int)=0)=false:=by simp;omega
  have hd2:(((n + 1:Nat):Int) == 0)=false:=by simp;omega
  obtain ⟨N,tX⟩:=zB (n + 1);rw [<-tX] at hd hd2 ⊢;have kN:IntKind.i64.wrap ((N:Int) - 1)=(n:Int):=by rw [dh _ (by omega)];omega
  have HC:=zC (show A.dM b N f=(List.range' f (b - f)).flatMap λi=>(A.dM b n (i + 1)).map ((i:Int) :: ·) by rw [tX];rfl);have hN0:((N:Int)=0)=False:=by simp;omega
  clear tX;go_enter Tryz.func74,Tryz.ntmps74;go_wp2_with fail;clear hd hd2 hN0;go_loopw [7,8] (λv7 v8 wr=>∃ (i:Nat) (L:List Sh),v8=.int .i64 i/\f<=i/\(i<=b\/i=f)/\wr.ownsRow w.heap.size 48 1 v7 L.length (L.map Sh.val)/\iF wr v7 L/\kY w.heap.size L/\af w wr/\L.length<=64 * (i - f)/\Hid (L.map Sh.l=(List.range' f (i - f)).flatMap λi=>(A.dM b n (i + 1)).map ((i:Int) :: ·))) (λ_ v8 _=>b - (intOf v8).toNat)
  case atStart=>exact ⟨f,[],rfl,zG _,.inr rfl,kF _ _ _ _,λs hs=>(by cases hs),λs hs=>(by cases hs),ai,aW _,by show _=_;rw [Nat.sub_self];rfl⟩
  case round =>
   obtain ⟨i,L,rfl,hfi,hib,hown,hro,hnw,hbr,hll,hcl⟩:=hrel;by_cases hlt:i < b
   ·obtain ⟨i1,hi1⟩:=zB (i + 1);have ki:IntKind.i64.wrap ((i:Int) + 1)=(i1:Int):=by rw [dh _ (by omega)];omega
    have CS:=ih i1 wr (by omega) (by omega);have HI1:=zC hi1;have hi7:i1<=6:=by omega
    obtain ⟨D,hD⟩:=zB (A.dM b n i1);have hDl:D.length<=64:=by rw [hD];exact A.DZ hb6 (by omega) (by omega)
    rw [<-hD] at CS;have HD:=zC hD;clear hi1 hD;go_wp2_with fail;refine CS.mono ?_;rintro e w2 ⟨⟨E,m,c,l,rfl,hSl,hmc,iJ,jy,hln⟩,b2⟩;have hml:m<=64:=by rw [hSl.1.1,<-bu (f:=Sh.l),iJ];exact hDl
    have dP:∀ s ∈ l,s.n<=6:=λs hs=>by
     rw [(hSl.2 s hs).1.1];have h9:s.l ∈ A.dM b n i1:=by rw [<-HD.out,<-iJ];exact List.mem_map_of_mem hs
     have:=(A.qL.1 h9).1;omega
    have FE:0 < m->∀ ad,E=some ad->wr.heap.size<=ad.block/\ad.block < w2.heap.size:=λh0 ad e=>by
     obtain ⟨ad',s,e',-,-,hc⟩:=hSl.at_ h0;rw [e] at e';injection e' with e';exact ⟨jy ad e,by rw [e'];exact cell_lt hc⟩
    have FL:∀ s ∈ l,0 < s.n->∀ ad,s.A=some ad->wr.heap.size<=ad.block/\ad.block < w2.heap.size:=λs hs h0 ad e=>⟨hln s hs h0 ad e,(hSl.2 s hs).1.nD h0 e⟩;have hob:∀ g,u7.ownBlock=some g->g < wr.heap.size:=λg e=>(gz hown g e).2;have hown2:=own_below hown b2;have Cm:=hro.below b2;have hb2:=bel hbr b2;have hwr2:=b2.size;clear CS hown hro hbr b2 jy hln;go_wp2_with fail;obtain ⟨W2,hW2⟩:=zB w2.heap.size;obtain ⟨WQ,zk⟩:=zB wr.heap.size;rw [<-hW2,<-zk] at FE FL hwr2;rw [<-zk] at hob;go_loopw [7,27] (λv7 v27 wi=>∃ (j:Nat) (L':List Sh),v27=.int .i64 j/\j<=m/\wi.ownsRow w.heap.size 48 1 v7 L'.length (L'.map Sh.val)/\iF wi v7 L'/\kY w.heap.size L'/\af w wi/\W2<=wi.heap.size/\L'.length=L.length + j/\gZ wi E m l/\(∀ g,v7.ownBlock=some g->g < WQ\/W2<=g)/\Hid (L'.map Sh.l=L.map Sh.l ++ (l.take j).map λs=>(i:Int) :: s.l)) (λ_ v27 _=>m - (intOf v27).toNat)
    case atStart=>exact ⟨0,L,rfl,aW _,hown2,Cm,hnw,hb2,Nat.le_of_eq hW2,rfl,hSl,λg e=>.inl (hob g e),by show _=_;rw [List.take_zero];simp⟩
    case round =>
     obtain ⟨j,L',rfl,hj,rJ,zO,nR,qE,ZO,ny,zh,qG,hcI⟩:=hrel;by_cases hjm:j < m
     ·obtain ⟨ad,s,rfl,hg,⟨hI,hsc,hs0⟩,hc⟩:=zh.at_ hjm;have j0:decide ((j:Int) < (m:Int))=true:=by simp;omega
      have js:IntKind.i64.wrap ((j:Int) + 1)=((j + 1:Nat):Int):=by rw [dh _ (by omega)];omega
      have hsm:=zD hg;have h6:=dP s hsm;have HG:=zC hg;have H6:=zC h6;have Ez:s.n<=1000000:=by omega
      have TL:L'.length<=1000000:=by omega
      have bA:af wr (wr.alloc (.cells #[.int .i64 i] 3)):=ai.alloc (zG _) _;have h7:∀ g,u7.ownBlock=some g->w.heap.size<=g/\g < wr.heap.size:=λg e=>gz rJ g e;have uM:=zC ny;clear hg h6 ny;go_wp2_with (first
       | (at_builtin;refine amH rfl (.tmp 33) (.tmp 34) rfl wr.heap.size (i:Int) rfl (aA wr _) bA (zG _) rfl hI Ez ?_;intro B c9 w9 jI lV ji nK;have Gv:=bel ji (ai.alloc (zG _) (.cells #[.slice (some B) (s.n + 1) c9] 48));have bs9:=(bel qE Gv).size)
       | (at_builtin;refine Qj rfl (.tmp 31) (.tmp 36) rfl w.heap.size u7 L'.length L' rfl (own_below rJ Gv) w9.heap.size ⟨some B,s.n + 1,c9,(i:Int) :: s.l⟩ rfl (aA w9 _) TL bs9 ?_;intro v' w10 Cf qF xA))
      have hBl:B.block < w9.heap.size:=jI.nD (by omega) rfl;have h9s:w9.heap.size<=(w9.alloc (.cells #[.slice (some B) (s.n + 1) c9] 48)).heap.size:=((dK w9).alloc (zG _) _).size;have h9t:=ji.size;have h9u:=qF.size;go_roundw
      case rel =>
       refine ⟨j + 1,L' ++ [⟨some B,s.n + 1,c9,(i:Int) :: s.l⟩],by go_num,by omega,by rw [cZ];exact Cf,((zO.below Gv).grow qF xA).snoc ⟨(jI.below (ai.alloc (zG _) _)).grow qF λ_ ad e e2=>?_,lV,λe=>by cases e⟩ (λ_ ad e e2=>?_),nR.snoc (λ_ ad e=>?_),uU (bel qE Gv) (zG _) qF (λg e=>(h7 g e).1),by omega,by rw [cZ,uM.out];simp;omega,(zh.below Gv).grown qF (λh0 ad e e2=>?_) (λt ht h0 ad e e2=>?_),λg e=>?_,?_⟩
       ·injection e with e;have:=(h7 _ e2.symm).2;rw [<-e] at this;omega
       ·injection e with e;rcases xA with e3 | e3
        ·rw [e3] at e2;have:=(h7 _ e2).2;rw [<-e] at this;omega
        ·rw [e3] at e2;injection e2 with e2;rw [<-e] at e2;omega
       ·injection e with e;have:=qE.size;rw [<-e];omega
       ·have a1:=FE h0 ad e;have a2:=qG _ e2.symm;omega
       ·have a1:=FL t ht h0 ad e;have a2:=qG _ e2.symm;omega
       ·rcases xA with e3 | e3
        ·rw [e3] at e;exact qG g e
        ·rw [e3] at e;injection e with e;omega
       ·show _=_;rw [eG,hcI.out,List.take_add_one,HG.out];simp
      case measure=>simp [intOf];omega
     ·have j0:decide ((j:Int) < (m:Int))=false:=by simp;omega
      have uM:=zC ny;have HJ:=zC (show j=m by omega);clear ny;go_wp2_with fail;go_roundw
      case rel =>
       have hm:m=l.length:=hSl.1.1;refine ⟨i1,L',rfl,by rw [HI1.out];omega,.inl (by rw [HI1.out];omega),rJ,zO,nR,qE,by rw [uM.out,HI1.out];omega,?_⟩;show _=_;have e:i1 - f=(i - f) + 1:=by rw [HI1.out];omega
       have e2:f + (i - f)=i:=by omega
       rw [hcI.out,HJ.out,hm,List.take_length,e,A.NY,List.flatMap_append,<-hcl.out,e2];rw [List.flatMap_singleton,<-HI1.out,<-HD.out,<-iJ,List.map_map];rfl
      case measure=>simp [intOf];have:=HI1.out;omega
   ·have i0:decide ((i:Int) < (b:Int))=false:=by simp;omega
    go_wp2_with fail;go_ret;obtain ⟨E,c,rfl,hS,hc,hE⟩:=Df hown rfl hro;refine ⟨⟨E,_,c,L,rfl,hS,hc,?_,hE,hnw⟩,hbr⟩;rw [hcl.out,HC.out];congr 2;omega
theorem akr (G:Nat) (V:aj) (vn vc:Nat) (v:ag) (s:Sh) (w:World) (hG:w.heap[G]? = some (.cells #[.slice V vn vc] 48 (0,0))) (hs:Ints w s.A s.n s.l) (hn:s.n<=1000000000) (hV:Ints w V vn v) (hvn:vn<=1000000000) :
  ay 76 #[.slice s.A s.n s.c,.pointer (some ⟨G,0,none⟩)] w (bg w (A.part s.l v)):=by
 have c0:=ah hG 0 _ rfl;have CP:=ace s.A s.n s.c s.l V vn vc v w hs hn hV hvn;go_enter Tryz.func76,Tryz.ntmps76;go_wp2_with fail;refine CP.mono ?_;rintro e w1 ⟨rfl,hb1⟩;go_wp2_with fail;go_ret;exact ⟨rfl,hb1⟩
theorem aic (G:Nat) (E:aj) (n c:Nat) (az:List Sh) (V:aj) (vn vc:Nat) (v:ag) (w:World) (hl:gZ w E n az) (hn:n<=1000000000) (hG:w.heap[G]? = some (.cells #[.slice V vn vc] 48 (0,0))) (h6:∀ s ∈ az,s.n<=1000000000) (hV:Ints w V vn v) (hvn:vn<=1000000000) :
  ay 126 #[.slice E n c,.func (.func 76) #[] #[.pointer (some ⟨G,0,none⟩)]] w λe w'=>(∃ i:Int,e=.returned (.int .i64 i)/\(decide (0<=i))=az.any (λs=>A.part s.l v))/\af w w':=by
 go_enter Tryz.func126,Tryz.ntmps126;go_wp2_with fail;go_loopw [8] (λvi wr=>∃ k:Nat,vi=.int .i64 k/\k<=n/\Hid (az.any (λs=>A.part s.l v)=(az.drop k).any (λs=>A.part s.l v))/\af w wr) (λvi _=>n - (intOf vi).toNat)
 case atStart=>exact ⟨0,rfl,by omega,by show _=_;rw [List.drop_zero],ai⟩
 case round =>
  obtain ⟨k,rfl,hk,hr,hW⟩:=hrel;by_cases hlt:k < n
  ·obtain ⟨ad,s,rfl,hg,⟨hI,-⟩,c0⟩:=(hl.below hW).at_ hlt;have HS:=zC (oU (p:=λs:Sh=>A.part s.l v) hg);have CB:=akr G V vn vc v s wr (au hW hG) hI (h6 s (zD hg)) (hV.below hW) hvn;obtain ⟨r9,gU⟩:=zB (A.part s.l v);rw [<-gU] at CB;have jo:=zC gU;obtain ⟨k0,k1⟩:=zJ (a:=k) (b:=n) (by omega);clear hg gU hI;go_wp2_with fail;refine CB.mono ?_;rintro e w1 ⟨rfl,hW1⟩;have hW2:=bel hW hW1;clear CB;cases r9
   ·go_wp2_with fail;go_roundw
    case rel=>exact ⟨k + 1,by go_num,by omega,by show _=_;rw [hr.out,HS.out,<-jo.out];rfl,hW2⟩
    case measure=>simp [intOf];omega
   ·go_wp2_with fail;go_ret;exact ⟨⟨k,rfl,by rw [hr.out,HS.out,<-jo.out];simp⟩,hW2⟩
  ·have hd:az.drop k=[]:=dF (by rw [<-hl.1.1];omega);have HD:=zC hd;clear hd;go_wp2_with fail;go_ret;exact ⟨⟨-1,rfl,by rw [hr.out,HD.out];rfl⟩,hW⟩
theorem af0 (G:Nat) (E:aj) (n c:Nat) (az:List Sh) (V:aj) (vn vc:Nat) (v:ag) (w:World) (hl:gZ w E n az) (hn:n<=1000000000) (hG:w.heap[G]? = some (.cells #[.slice V vn vc] 48 (0,0))) (h6:∀ s ∈ az,s.n<=1000000000) (hV:Ints w V vn v) (hvn:vn<=1000000000) :
  ay 75 #[.slice E n c,.func (.func 76) #[] #[.pointer (some ⟨G,0,none⟩)]] w (bg w ((az.map Sh.l).any λu=>A.part u v)):=by
 have CI:=aic G E n c az V vn vc v w hl hn hG h6 hV hvn;go_enter Tryz.func75,Tryz.ntmps75;go_wp2_with fail;refine CI.mono ?_;rintro e w1 ⟨⟨i,rfl,hi⟩,hb1⟩;go_wp2_with fail;go_ret;exact ⟨by rw [List.any_map];show _=Ending.returned (.bool (az.any λs=>A.part s.l v));rw [<-hi];rfl,hb1⟩
namespace A
theorem U6 {ok:List Int->Bool}:∀ (L1 own L2:List (List Int)),gV ok own (L1 ++ L2)=gV ok (gV ok own L1) L2
 | [],_,_=>rfl
 | v :: L1,own,L2=>by
  rw [List.cons_append,gV,gV];exact U6 L1 _ L2
theorem ab4 {ok:List Int->Bool} {own L:List (List Int)} {v:ag} (h:((gV ok own L).any λu=>part u v)=false) (h2:ok v=false):gV ok own (L ++ [v])=gV ok own L ++ [v]:=by
 rw [U6,gV,gV,h,h2];rfl
theorem U8 {ok:List Int->Bool} {own L:List (List Int)} {v:ag} (h:((gV ok own L).any λu=>part u v)=true\/ok v=true):gV ok own (L ++ [v])=gV ok own L:=by
 rw [U6,gV,gV];rcases h with h | h <;> rw [h] <;> simp
def upto (n k:Nat):List (List Int):=(List.range k).flatMap λk=>dM n (k + 1) 0
theorem upto_succ (n k:Nat):upto n (k + 1)=upto n k ++ dM n (k + 1) 0:=by unfold upto;rw [List.range_succ,List.flatMap_append,List.flatMap_singleton]
end A
namespace K
section
variable {nd : Int} {l : List Ro} {ss : List S} {r : List Q}
theorem acy (h:(plan nd l ss r).2=4):bK nd l ss r=0:=by
 unfold plan at h;split at h
 ·assumption
 ·rename_i h1
  exfalso;have h:bK nd l ss r=4:=h;unfold bK at h;split at h
  ·split at h <;> cases h
  ·cases h
theorem acK (h:(plan nd l ss r).2=0):refute nd l ss r=([],7):=by unfold refute;rw [if_pos h]
theorem acI (h:(plan nd l ss r).2 ≠ 0) (h2:(plan nd l ss r).2 ≠ 4):refute nd l ss r=([],(plan nd l ss r).2):=by unfold refute;rw [if_neg h,if_neg h2]
theorem acH (h:(plan nd l ss r).2=4):refute nd l ss r=((xZ nd l ss r).map (tq nd l ss r),0):=by unfold refute;rw [if_neg (by rw [h];decide),if_pos h]
theorem abb {s:S} {v:ag} (h:v.length<=6):(bG nd l s r v).length<=384:=by
 unfold bG;split
 ·refine aN (Oy _ _ _) ?_;have:2 ^ v.length<=2 ^ 6:=Nat.pow_le_pow_right (by omega) h;exact aN (Nat.mul_le_mul this h) (by decide)
 ·exact aW _
def wZ (nd:Int) (l:List Ro) (ss:List S) (r:List Q) (s:Nat):List (Int × List Int × List Lb):=(List.range s).flatMap λs=>(A.own (eH nd l ss r s) r.length).map λv=>((s:Int),(tq nd l ss r (s,v)).2)
theorem X4 (s:Nat):wZ nd l ss r (s + 1)=wZ nd l ss r s ++ (A.own (eH nd l ss r s) r.length).map λv=>((s:Int),(tq nd l ss r (s,v)).2):=by unfold wZ;rw [List.range_succ,List.flatMap_append,List.flatMap_singleton]
theorem X3:((xZ nd l ss r).map (tq nd l ss r)).map (λb=>((b.1:Int),b.2))=wZ nd l ss r ss.length:=by
 unfold xZ wZ;rw [List.map_map,List.map_flatMap];congr 1;funext s
 rw [List.map_map];rfl
end
end K
theorem gZ.ext {w w':World} {E:aj} {n:Nat} {l:List Sh} (h:gZ w E n l) (he:Ext w w'):gZ w' E n l:=⟨aX.ext h.1 he,λs hs=>⟨(h.2 s hs).1.ext he,(h.2 s hs).2⟩⟩
theorem iF.ext {w w':World} {v:Value} {L:List Sh} (h:iF w v L) (he:Ext w w'):iF w' v L:=λs hs=>⟨⟨(h s hs).1.1.ext he,(h s hs).1.2⟩,(h s hs).2⟩
def iT (E:aj) (m:Nat) (v:Value):Prop:=0 < m->∀ ad,E=some ad->v.ownBlock ≠ some ad.block
theorem iT.grow {w:World} {v v':Value} {E:aj} {m:Nat} {l:List Sh} (h:iT E m v) (hS:gZ w E m l) (ha:v'.ownBlock=v.ownBlock\/v'.ownBlock=some w.heap.size):iT E m v':=λh0 ad e e2=>by
 rcases ha with e3 | e3
 ·rw [e3] at e2;exact h h0 ad e e2
 ·rw [e3] at e2;injection e2 with e2;obtain ⟨ad',s,e',-,-,hc⟩:=hS.at_ h0;rw [e] at e';injection e' with e';subst e';have:=cell_lt hc;rw [add_block] at this;omega
def nV (w:World) (v:Value) (bl:List BV):Prop:=∀ y ∈ bl,(Ints w y.V y.vn y.v/\gY w y.LA y.ln y.lb)/\iT y.V y.vn v/\iT y.LA y.ln v/\(y.vn<=y.vc/\y.vn<=6/\y.ln<=384)
theorem nV.ext {w w':World} {v:Value} {bl:List BV} (h:nV w v bl) (he:Ext w w'):nV w' v bl:=λy hy=>⟨⟨(h y hy).1.1.ext he,aX.ext (h y hy).1.2 he⟩,(h y hy).2⟩
theorem nV.below {w w':World} {v:Value} {bl:List BV} (h:nV w v bl) (hb:af w w'):nV w' v bl:=h.ext (Ext.below hb)
theorem gY.grow {w w':World} {A:aj} {n:Nat} {l:List Lb} {r:Option Nat} (h:gY w A n l) (hg:w.grownBy w' r) (hne:0 < n->∀ ad,A=some ad->some ad.block ≠ r):gY w' A n l:=by
 refine ⟨h.1,h.2.1,λh0=>?_⟩;obtain ⟨ad,e,hc⟩:=h.2.2 h0;refine ⟨ad,e,λj u hu=>?_⟩;have c:=hc j u hu;exact (lg (hg.block _ (cell_lt c) (by rw [add_block];exact hne h0 ad e))).trans c
theorem gY.nD {w:World} {A:aj} {n:Nat} {l:List Lb} (h:gY w A n l) (h0:0 < n) {ad:Addr} (e:A=some ad):ad.block < w.heap.size:=by
 obtain ⟨ad',e',hc⟩:=h.2.2 h0;rw [e] at e';injection e' with e';have hl:0 < (l.flatMap mM).length:=by rw [h.2.1];omega
 have:=cell_lt (hc 0 _ (zF hl));rw [add_block,<-e'] at this;exact this
theorem nV.grow {w w':World} {v v':Value} {bl:List BV} (h:nV w v bl) (hg:w.grownBy w' v.ownBlock) (ha:v'.ownBlock=v.ownBlock\/v'.ownBlock=some w.heap.size):nV w' v' bl:=λy hy=>by
 obtain ⟨⟨h1,h2⟩,h3,h4,h5⟩:=h y hy;refine ⟨⟨h1.grow hg λh0 ad e e2=>h3 h0 ad e e2.symm,h2.grow hg λh0 ad e e2=>h4 h0 ad e e2.symm⟩,λh0 ad e e2=>?_,λh0 ad e e2=>?_,h5⟩
 ·rcases ha with e3 | e3
  ·rw [e3] at e2;exact h3 h0 ad e e2
  ·rw [e3] at e2;injection e2 with e2;have:=h1.nD h0 e;omega
 ·rcases ha with e3 | e3
  ·rw [e3] at e2;exact h4 h0 ad e e2
  ·rw [e3] at e2;injection e2 with e2;have:=h2.nD h0 e;omega
theorem nV.snoc {w:World} {v:Value} {bl:List BV} (h:nV w v bl) {y:BV} (h1:(Ints w y.V y.vn y.v/\gY w y.LA y.ln y.lb)/\iT y.V y.vn v/\iT y.LA y.ln v/\(y.vn<=y.vc/\y.vn<=6/\y.ln<=384)):nV w v (bl ++ [y]):=λs hs=>by
 rcases dX.1 hs with hs | hs
 ·exact h s hs
 ·rw [dB] at hs;rw [hs];exact h1
theorem Tryz.info90:(Tryz.prog.info? 90).map (λi=>(i.zero,i.size,i.bytes))=some (some (.agg #[.int .i64 0,.slice none 0 0,.slice none 0 0]),3,56):=by kernel_rfl
theorem ad4 {ops:Array Oper} {o:Oper} {a:Act} {w w2:World} {K:Act->World->Prop} {Q:Exit->Act->World->Prop} {E:Prop} (hgd:o.guard=none) (s x:Operand)
  (ho:o.op=.call { callee:=.builtin .append,args:=#[s,x],argTypes:=#[28,28] })
  {base:Nat} {v:Value} {n:Nat} {l:List BV} (hown:w2.ownsRow base 90 3 v n (l.flatMap BV.cells)) (hbase:base<=w2.heap.size) (hs:a.eval s=v) (g:Nat) (y:BV) (hx:a.eval x=.slice (some ⟨g,0,none⟩) 1 1)
  (hw:af w2 w) (hg:w.heap[g]? = some (.cells #[.int .i64 y.sh,.slice y.V y.vn y.vc,.slice y.LA y.ln y.lc] 90 (0,0))) (hn:n<=1000000)
  (h:∀ v' w',w'.ownsRow base 90 3 v' (n + 1) ((l ++ [y]).flatMap BV.cells)->w.grownBy w' v.ownBlock->(v'.ownBlock=v.ownBlock\/v'.ownBlock=some w.heap.size)->K (a.put o.dst v') w') :
  if Region.wanted o (yielded ops a.tmps)=true then Oper.wp Tryz.prog o a w K Q else E:=by
 obtain ⟨i0,hi,hz0,hz1,hz2⟩:=info_parts Tryz.info90;refine x_ hgd s x 28 ho base 90 i0 (.agg #[.int .i64 0,.slice none 0 0,.slice none 0 0]) 3 56 Tryz.underlying28 hi hz0 hz1 hz2 rfl (by decide) v n (l.flatMap BV.cells) hs (own_below hown hw) (some ⟨g,0,none⟩) 1 1 y.cells hx ⟨rfl,λ_=>⟨_,rfl,λj u hu=>by rw [lN];exact ah hg j u (by simpa [BV.cells] using hu)⟩⟩ (λu hu=>?_) (by simp only [maxLen];omega) (by omega) (aN hbase hw.size) ?_
 ·simp [BV.cells] at hu;rcases hu with rfl | rfl | rfl <;> rfl
 ·intro v' w' h2 h3 h4;exact h v' w' (by rw [List.flatMap_append];simpa using h2) h3 h4
def aeO (w w':World) (p:List (Int × List Int × List Lb)) (er:Int) (e:Ending):Prop :=
 (∃ A n c bl,e=.returned (.tuple #[.slice A n c,.int .i64 er])/\iZ w' A n bl/\n<=c/\Ak n bl/\bl.map BV.pr=p)/\af w w'
theorem gJ.app {w0 w w':World} {b mb gb:Nat} {x:Cs} {X X':Nat->Prop} {az:List Sh} {v v':Value} (h:gJ w0 w b mb gb x X az) (hg:w.grownBy w' v.ownBlock) (hv:∀ g,v.ownBlock=some g->X g) (ha:v'.ownBlock=v.ownBlock\/v'.ownBlock=some w.heap.size) (hX:∀ g,X' g->X g\/v'.ownBlock=some g):gJ w0 w' b mb gb x X' az:=by
 refine ((h.turn (Y:=λg=>X g\/g=w.heap.size) (λg h=>h.elim .inl λe=>.inr (by rw [e];exact zG _))).own hg (λg e=>.inl (hv g e))).turn λg h=>.inl ?_;rcases hX g h with h | h
 ·exact .inl h
 ·rcases ha with e | e
  ·rw [e] at h;exact .inl (hv g h)
  ·rw [e] at h;injection h with h;exact .inr h.symm
theorem agP {ws w w':World} {r:Option Nat} (h:ws.grownBy w r) (hb:af w w'):ws.grownBy w' r:=h.andThen (row':=none) ⟨hb.os,hb.tape,hb.output,hb.size,λq hq _=>hb.block q hq⟩ (λ_ e=>by cases e)
structure Mid (w1 ws w:World) (b mb gb:Nat) (x:Cs) (az:List Sh) (u v:Value) (BS:Nat) (own:List Sh) (E:aj) (m:Nat) (l:List Sh):Prop where
 row:w.ownsRow BS 48 1 v own.length (own.map Sh.val)
 ok:iF w v own
 pl:gJ w1 w b mb gb x (λg=>u.ownBlock=some g\/v.ownBlock=some g) az
 gr:ws.grownBy w (some mb)
 sh:gZ w E m l
 off:iT E m v
 lk:iF w v l
theorem Mid.below {w1 ws w w':World} {b mb gb:Nat} {x:Cs} {az:List Sh} {u v:Value} {BS:Nat} {own:List Sh} {E:aj} {m:Nat} {l:List Sh} (h:Mid w1 ws w b mb gb x az u v BS own E m l) (hb:af w w'):Mid w1 ws w' b mb gb x az u v BS own E m l :=
 ⟨own_below h.row hb,h.ok.below hb,h.pl.below hb,agP h.gr hb,h.sh.below hb,h.off,h.lk.below hb⟩
theorem Mid.best {w1 ws w w':World} {b mb gb:Nat} {x:Cs} {az:List Sh} {u v:Value} {BS:Nat} {own:List Sh} {E:aj} {m:Nat} {l:List Sh} (h:Mid w1 ws w b mb gb x az u v BS own E m l) (hg:w.grownBy w' (some mb)) (hp:gJ w1 w' b mb gb x (λg=>u.ownBlock=some g\/v.ownBlock=some g) az):Mid w1 ws w' b mb gb x az u v BS own E m l :=
 ⟨h.row.kept hg (.inr λe=>(h.pl.away mb (.inr e)).2.2.1 rfl),h.ok.ext (h.pl.memo.ext hg),hp,h.gr.trans hg,h.sh.ext (h.pl.memo.ext hg),h.off,h.lk.ext (h.pl.memo.ext hg)⟩
theorem Mid.app {w1 ws w w':World} {b mb gb:Nat} {x:Cs} {az:List Sh} {u v v':Value} {BS:Nat} {own:List Sh} {E:aj} {m:Nat} {l:List Sh} (h:Mid w1 ws w b mb gb x az u v BS own E m l) {y:Sh} (hy:y ∈ l) (hg:w.grownBy w' v.ownBlock) (ha:v'.ownBlock=v.ownBlock\/v'.ownBlock=some w.heap.size) (hr:w'.ownsRow BS 48 1 v' (own.length + 1) ((own ++ [y]).map Sh.val)) (hBS:BS=ws.heap.size):Mid w1 ws w' b mb gb x az u v' BS (own ++ [y]) E m l:=by
 have h1:=h.lk.grow hg ha;refine ⟨by rw [cZ];exact hr,(h.ok.grow hg ha).snoc (h1 y hy).1 (h1 y hy).2,h.pl.app hg (λg e=>.inr e) ha (λg e=>e.elim (λe=>.inl (.inl e)) .inr),h.gr.andThen hg (λj e=>.inl (by rw [<-hBS];exact (gz h.row j e).1)),h.sh.grown hg (λh0 ad e e2=>h.off h0 ad e e2.symm) (λs hs h0 ad e e2=>(h.lk s hs).2 h0 ad e e2.symm),h.off.grow h.sh ha,h1⟩
structure yw (w1 w:World) (b mb gb:Nat) (x:Cs) (az:List Sh) (v:Value) (B1:Nat) (bl:List BV) (E:aj) (n:Nat) (own:List Sh):Prop where
 row:w.ownsRow B1 90 3 v bl.length (bl.flatMap BV.cells)
 ok:nV w v bl
 pl:gJ w1 w b mb gb x (λg=>v.ownBlock=some g) az
 sh:gZ w E n own
 off:iT E n v
 lk:iF w v own
theorem yw.below {w1 w w':World} {b mb gb:Nat} {x:Cs} {az:List Sh} {v:Value} {B1:Nat} {bl:List BV} {E:aj} {n:Nat} {own:List Sh} (h:yw w1 w b mb gb x az v B1 bl E n own) (hb:af w w'):yw w1 w' b mb gb x az v B1 bl E n own :=
 ⟨own_below h.row hb,h.ok.below hb,h.pl.below hb,h.sh.below hb,h.off,h.lk.below hb⟩
theorem yw.app {w1 w w':World} {b mb gb:Nat} {x:Cs} {az:List Sh} {v v':Value} {B1:Nat} {bl:List BV} {E:aj} {n:Nat} {own:List Sh} (h:yw w1 w b mb gb x az v B1 bl E n own) {y:BV} (hy:(Ints w y.V y.vn y.v/\gY w y.LA y.ln y.lb)/\iT y.V y.vn v/\iT y.LA y.ln v/\(y.vn<=y.vc/\y.vn<=6/\y.ln<=384)) (hg:w.grownBy w' v.ownBlock) (ha:v'.ownBlock=v.ownBlock\/v'.ownBlock=some w.heap.size) (hr:w'.ownsRow B1 90 3 v' (bl.length + 1) ((bl ++ [y]).flatMap BV.cells)):yw w1 w' b mb gb x az v' B1 (bl ++ [y]) E n own :=
 ⟨by rw [cZ];exact hr,(h.ok.snoc hy).grow hg ha,h.pl.app hg (λg e=>e) ha (λg e=>.inr e),h.sh.grown hg (λh0 ad e e2=>h.off h0 ad e e2.symm) (λs hs h0 ad e e2=>(h.lk s hs).2 h0 ad e e2.symm),h.off.grow h.sh ha,h.lk.grow hg ha⟩
theorem agp (A:aj) (n c:Nat) (ts:List TV) (w:World) (hT:ja w A n ts) :
  ay 18 #[.slice A n c] w λe w'=>(∃ z,e=.returned (.bool z)/\(z=true->n<=6/\∀ y ∈ ts,y.n<=10/\y.n'<=10))/\af w w':=by
 go_enter Tryz.func18,Tryz.ntmps18;go_wp2_with fail;go_loopw [3] (λv3 wr=>∃ k:Nat,v3=.int .i64 k/\k<=n/\k<=6/\(∀ (i:Nat) (y:TV),ts[i]? = some y->i < k->y.n<=10/\y.n'<=10)/\af w wr) (λv3 _=>n - (intOf v3).toNat)
 case atStart=>exact ⟨0,rfl,by omega,by omega,λi y _ h=>absurd h (by omega),ai⟩
 case round =>
  obtain ⟨k,rfl,hk,hk6,hf,hW⟩:=hrel;by_cases hlt:k < n/\k < 6
  ·obtain ⟨hlt,dP⟩:=hlt;obtain ⟨ad,y,rfl,hg,-,t0,t1,t2,t3⟩:=(hT.below hW).at_ hlt;obtain ⟨k0,k1⟩:=zJ (a:=k) (b:=n) (by omega);have k2:decide ((k:Int) < (n:Int))=true:=by simp;omega
   have k3:decide ((k:Int) < 6)=true:=by simp;omega
   have ks:IntKind.i64.wrap ((k:Int) + 1)=((k + 1:Nat):Int):=by rw [dh _ (by omega)];omega
   have HG:=zC hg;clear hg;by_cases h1:10 < y.n
   ·have d1:decide ((10:Int) < (y.n:Int))=true:=by simp;omega
    have d2:decide (10 < y.n)=true:=by simp;omega
    clear h1;go_wp2_with fail;go_ret;exact ⟨⟨false,rfl,λh=>(by cases h)⟩,hW⟩
   ·have d1:decide ((10:Int) < (y.n:Int))=false:=by simp;omega
    have d2:decide (10 < y.n)=false:=by simp;omega
    by_cases h2:10 < y.n'
    ·have d3:decide ((10:Int) < (y.n':Int))=true:=by simp;omega
     have d4:decide (10 < y.n')=true:=by simp;omega
     clear h1 h2;go_wp2_with fail;go_ret;exact ⟨⟨false,rfl,λh=>(by cases h)⟩,hW⟩
    ·have d3:decide ((10:Int) < (y.n':Int))=false:=by simp;omega
     have d4:decide (10 < y.n')=false:=by simp;omega
     have OX:=zC (show y.n<=10/\y.n'<=10 by omega);clear h1 h2;go_wp2_with fail;go_roundw
     case rel =>
      refine ⟨k + 1,by go_num,by omega,by omega,λi z hz hi=>?_,hW⟩;by_cases e:i=k
      ·rw [e,HG.out] at hz;injection hz with hz;rw [<-hz];exact OX.out
      ·exact hf i z hz (by omega)
     case measure=>simp [intOf];omega
  ·have HF:=zC (show n<=6->∀ y ∈ ts,y.n<=10/\y.n'<=10 from λh y hy=>by
    obtain ⟨i,hi,e⟩:=List.mem_iff_getElem.1 hy;have:=hT.1.1;exact hf i y (by rw [zF hi,e]) (by omega))
   by_cases hkn:k < n
   ·obtain ⟨k2,k2'⟩:=zK (a:=k) (b:=n) (by omega);have k3:decide ((k:Int) < 6)=false:=by simp;omega
    have hlt':¬ k < 6:=λh=>hlt ⟨hkn,h⟩;have HZ:=zC (show decide ((n:Int)<=6)=false by simp;omega);clear hlt hkn hlt';go_wp2_with fail;go_ret;exact ⟨⟨_,rfl,λh=>absurd (h.symm.trans (by first | exact HZ.out | (have h9:=HZ.out;simp at h9 ⊢;omega))) (by decide)⟩,hW⟩
   ·obtain ⟨k2,k2'⟩:=zL (a:=k) (b:=n) (by omega);clear hlt hkn;go_wp2_with fail;go_ret;exact ⟨⟨_,rfl,λh=>(by have h9:n<=6:=(by simp at h;omega);exact ⟨h9,HF.out h9⟩)⟩,hW⟩
theorem agn (A:aj) (n c:Nat) (ts:List BV) (w:World) (hT:iZ w A n ts) :
  ay 19 #[.slice A n c] w λe w'=>(∃ z,e=.returned (.bool z)/\(z=true->n<=202/\∀ y ∈ ts,y.vn<=6/\y.ln<=60))/\af w w':=by
 go_enter Tryz.func19,Tryz.ntmps19;go_wp2_with fail;go_loopw [3] (λv3 wr=>∃ k:Nat,v3=.int .i64 k/\k<=n/\k<=210/\(∀ (i:Nat) (y:BV),ts[i]? = some y->i < k->y.vn<=6/\y.ln<=60)/\af w wr) (λv3 _=>n - (intOf v3).toNat)
 case atStart=>exact ⟨0,rfl,by omega,by omega,λi y _ h=>absurd h (by omega),ai⟩
 case round =>
  obtain ⟨k,rfl,hk,hk6,hf,hW⟩:=hrel;by_cases hlt:k < n/\k < 210
  ·obtain ⟨hlt,dP⟩:=hlt;obtain ⟨ad,y,rfl,hg,-,c0,c1,c2⟩:=(hT.below hW).at_ hlt;obtain ⟨k0,k1⟩:=zJ (a:=k) (b:=n) (by omega);have k2:decide ((k:Int) < (n:Int))=true:=by simp;omega
   have k3:decide ((k:Int) < 210)=true:=by simp;omega
   have ks:IntKind.i64.wrap ((k:Int) + 1)=((k + 1:Nat):Int):=by rw [dh _ (by omega)];omega
   have HG:=zC hg;clear hg;by_cases h1:6 < y.vn
   ·have d1:decide ((6:Int) < (y.vn:Int))=true:=by simp;omega
    have d2:decide (6 < y.vn)=true:=by simp;omega
    clear h1;go_wp2_with fail;go_ret;exact ⟨⟨false,rfl,λh=>(by cases h)⟩,hW⟩
   ·have d1:decide ((6:Int) < (y.vn:Int))=false:=by simp;omega
    have d2:decide (6 < y.vn)=false:=by simp;omega
    by_cases h2:60 < y.ln
    ·have d3:decide ((60:Int) < (y.ln:Int))=true:=by simp;omega
     have d4:decide (60 < y.ln)=true:=by simp;omega
     clear h1 h2;go_wp2_with fail;go_ret;exact ⟨⟨false,rfl,λh=>(by cases h)⟩,hW⟩
    ·have d3:decide ((60:Int) < (y.ln:Int))=false:=by simp;omega
     have d4:decide (60 < y.ln)=false:=by simp;omega
     have OX:=zC (show y.vn<=6/\y.ln<=60 by omega);clear h1 h2;go_wp2_with fail;go_roundw
     case rel =>
      refine ⟨k + 1,by go_num,by omega,by omega,λi z hz hi=>?_,hW⟩;by_cases e:i=k
      ·rw [e,HG.out] at hz;injection hz with hz;rw [<-hz];exact OX.out
      ·exact hf i z hz (by omega)
     case measure=>simp [intOf];omega
  ·have HF:=zC (show n<=202->∀ y ∈ ts,y.vn<=6/\y.ln<=60 from λh y hy=>by
    obtain ⟨i,hi,e⟩:=List.mem_iff_getElem.1 hy;have:=hT.1.1;exact hf i y (by rw [zF hi,e]) (by omega))
   by_cases hkn:k < n
   ·have hb:¬ k < 210:=λh=>hlt ⟨hkn,h⟩;obtain ⟨k2,k2'⟩:=zK (a:=k) (b:=n) (by omega);have k3:decide ((k:Int) < 210)=false:=by simp;omega
    have k3':decide (k < 210)=false:=by simp;omega
    have KP:decide ((n:Int)<=12)=false:=by simp;omega
    have KQ:decide (n<=12)=false:=by simp;omega
    have QE:decide (200 < (n:Int))=true:=by simp;omega
    have QF:decide (200 < n)=true:=by simp;omega
    have Yp:decide ((n:Int)<=202)=false:=by simp;omega
    have Yq:decide (n<=202)=false:=by simp;omega
    have HF2:=zC (show True from trivial);clear hlt hkn hb;go_wp2_with fail;go_ret;exact ⟨⟨false,rfl,λh=>(by cases h)⟩,hW⟩
   by_cases hb:n<=12
   ·obtain ⟨k2,k2'⟩:=zL (a:=k) (b:=n) (by omega);have KP:decide ((n:Int)<=12)=true:=by simp;omega
    have KQ:decide (n<=12)=true:=by simp;omega
    have HF2:=zC (show n<=202 from by omega);clear hlt hkn hb;go_wp2_with fail;go_ret;exact ⟨⟨true,rfl,λ_=>⟨HF2.out,HF.out HF2.out⟩⟩,hW⟩
   by_cases hb:n<=200
   ·obtain ⟨k2,k2'⟩:=zL (a:=k) (b:=n) (by omega);have KP:decide ((n:Int)<=12)=false:=by simp;omega
    have KQ:decide (n<=12)=false:=by simp;omega
    have QE:decide (200 < (n:Int))=false:=by simp;omega
    have QF:decide (200 < n)=false:=by simp;omega
    have HF2:=zC (show True from trivial);clear hlt hkn hb;go_wp2_with fail;go_ret;exact ⟨⟨false,rfl,λh=>(by cases h)⟩,hW⟩
   by_cases hb:n<=202
   ·obtain ⟨k2,k2'⟩:=zL (a:=k) (b:=n) (by omega);have KP:decide ((n:Int)<=12)=false:=by simp;omega
    have KQ:decide (n<=12)=false:=by simp;omega
    have QE:decide (200 < (n:Int))=true:=by simp;omega
    have QF:decide (200 < n)=true:=by simp;omega
    have Yp:decide ((n:Int)<=202)=true:=by simp;omega
    have Yq:decide (n<=202)=true:=by simp;omega
    have HF2:=zC (show n<=202 from by omega);clear hlt hkn hb;go_wp2_with fail;go_ret;exact ⟨⟨true,rfl,λ_=>⟨HF2.out,HF.out HF2.out⟩⟩,hW⟩
   ·obtain ⟨k2,k2'⟩:=zL (a:=k) (b:=n) (by omega);have KP:decide ((n:Int)<=12)=false:=by simp;omega
    have KQ:decide (n<=12)=false:=by simp;omega
    have QE:decide (200 < (n:Int))=true:=by simp;omega
    have QF:decide (200 < n)=true:=by simp;omega
    have Yp:decide ((n:Int)<=202)=false:=by simp;omega
    have Yq:decide (n<=202)=false:=by simp;omega
    have HF2:=zC (show True from trivial);clear hlt hkn hb;go_wp2_with fail;go_ret;exact ⟨⟨false,rfl,λh=>(by cases h)⟩,hW⟩
namespace K
def zeroS:S:=⟨0,0,0,0,0,none,0,0,[]⟩
def jG (n a b c:Nat):Bool:=(decide (a < n) && decide (n<=b)) || decide (c < n)
def gQ (x:Cs):Bool:=uV x.nd x.n && (!(jG x.sn 2 4 6) && (!(jG x.m 4 6 8) && (x.ss.all (λs=>T.few s x.r 8) && T.few zeroS x.r 8)))
end K
theorem agl (x:Cs) (w:World) (hSS:Shifts w x.SA x.sn x.ss) (hRR:dm w x.B x.m x.r) :
  ay 17 #[.agg #[.int .i64 x.nd,.slice x.A x.n x.c],.slice x.SA x.sn x.sc,.slice x.B x.m x.d] w (bg w (K.gQ x)):=by
 have hN:=Net.new w x.nd x.A x.n x.c;have p0:=hN.c0;have p1:=hN.c1;have b0:af w (w.alloc (.cells #[.int .i64 x.nd,.slice x.A x.n x.c] 24)):=ai.alloc (zG _) _;have Fe:=akA x.nd x.A x.n x.c (w.alloc (.cells #[.int .i64 x.nd,.slice x.A x.n x.c] 24));obtain ⟨f27,Tq⟩:=zB (K.uV x.nd x.n);rw [<-Tq] at Fe;have FC:=zC Tq;clear Tq;go_enter Tryz.func17,Tryz.ntmps17;go_wp2_with fail;refine Fe.mono ?_;rintro e w1 ⟨rfl,b1⟩;have hb1:=bel b0 b1;clear Fe b0 b1 p0 p1 hN;cases f27 with
 | false =>
  have HX:=zC (show K.gQ x=false by unfold K.gQ;rw [<-FC.out];rfl);go_wp2_with fail;go_ret;exact ⟨by rw [HX.out];rfl,hb1⟩
 | true =>
  by_cases h1:x.sn<=2
  ·have Vz:decide (2 < ((x.sn:Nat):Int))=false:=by simp;omega
   have VB:decide (2 < x.sn)=false:=by simp;omega
   have s3i:decide (6 < ((x.sn:Nat):Int))=false:=by simp;omega
   have s3n:decide (6 < x.sn)=false:=by simp;omega
   by_cases h2:x.m<=4
   ·have CU:decide (4 < ((x.m:Nat):Int))=false:=by simp;omega
    have CV:decide (4 < x.m)=false:=by simp;omega
    have IZ:decide (8 < ((x.m:Nat):Int))=false:=by simp;omega
    have I4:decide (8 < x.m)=false:=by simp;omega
    have HH:=zC (show K.gQ x=(x.ss.all (λs=>T.few s x.r 8) && T.few K.zeroS x.r 8) by
     have e1:K.jG x.sn 2 4 6=false:=by unfold K.jG;simp;omega
     have e2:K.jG x.m 4 6 8=false:=by unfold K.jG;simp;omega
     unfold K.gQ;rw [<-FC.out,e1,e2];rfl)
    have Ue:x.sn<=1000000000:=by omega
    clear h1 h2;go_wp2_with fail;go_loopw [7] (λv7 wr=>∃ k:Nat,v7=.int .i64 k/\k<=x.sn/\Hid (K.gQ x=((x.ss.drop k).all (λs=>T.few s x.r 8) && T.few K.zeroS x.r 8))/\af w wr) (λv7 _=>x.sn - (intOf v7).toNat)
    case atStart=>exact ⟨0,rfl,by omega,by show _=_;rw [List.drop_zero];exact HH.out,hb1⟩
    case round =>
     obtain ⟨k,rfl,hk,hr,hW⟩:=hrel;by_cases hlt:k < x.sn
     ·obtain ⟨ad,s,hA,hg,-,c0,c1,c2,c3,c4,c5⟩:=(hSS.below hW).at_ hlt;rw [hA];have HA:=zC hA;have HD:=zC (D6 (p:=λs=>T.few s x.r 8) hg);have CF:=yU s x.B x.m x.d x.r 8 wr (hRR.below hW) (by omega);obtain ⟨z,hz⟩:=zB (T.few s x.r 8);rw [<-hz] at CF;have HZ:=zC hz;obtain ⟨k0,k1⟩:=zJ (a:=k) (b:=x.sn) (by omega);clear hz hg hA;go_wp2_with fail;refine CF.mono ?_;rintro e w2 ⟨rfl,b2⟩;have hb2:=bel hW b2;clear CF c0 c1 c2 c3 c4 c5;cases z with
      | false =>
       go_wp2_with fail;go_ret;exact ⟨by rw [hr.out,HD.out,<-HZ.out];rfl,hb2⟩
      | true =>
       go_wp2_with fail;go_roundw
       case rel=>exact ⟨k + 1,by go_num,by omega,by show _=_;rw [hr.out,HD.out,<-HZ.out,Bool.true_and],hb2⟩
       case measure=>simp [intOf];omega
     ·have HE:=zC (show K.gQ x=T.few K.zeroS x.r 8 by rw [hr.out,dF (by rw [<-hSS.1.1];omega)];rfl);have CZ:=yU K.zeroS x.B x.m x.d x.r 8 wr (hRR.below hW) (by omega);obtain ⟨k2,k2'⟩:=zL (a:=k) (b:=x.sn) (by omega);clear hlt;go_wp2_with fail;refine CZ.mono ?_;rintro e w2 ⟨rfl,b2⟩;go_wp2_with fail;go_ret;exact ⟨by rw [HE.out];rfl,bel hW b2⟩
   by_cases h2:x.m<=6
   ·have CU:decide (4 < ((x.m:Nat):Int))=true:=by simp;omega
    have CV:decide (4 < x.m)=true:=by simp;omega
    have IX:decide (((x.m:Nat):Int)<=6)=true:=by simp;omega
    have IY:decide (x.m<=6)=true:=by simp;omega
    have HX:=zC (show K.gQ x=false by unfold K.gQ K.jG;simp;omega);go_wp2_with fail;go_ret;exact ⟨by rw [HX.out];rfl,hb1⟩
   by_cases h2:x.m<=8
   ·have CU:decide (4 < ((x.m:Nat):Int))=true:=by simp;omega
    have CV:decide (4 < x.m)=true:=by simp;omega
    have IX:decide (((x.m:Nat):Int)<=6)=false:=by simp;omega
    have IY:decide (x.m<=6)=false:=by simp;omega
    have IZ:decide (8 < ((x.m:Nat):Int))=false:=by simp;omega
    have I4:decide (8 < x.m)=false:=by simp;omega
    have HH:=zC (show K.gQ x=(x.ss.all (λs=>T.few s x.r 8) && T.few K.zeroS x.r 8) by
     have e1:K.jG x.sn 2 4 6=false:=by unfold K.jG;simp;omega
     have e2:K.jG x.m 4 6 8=false:=by unfold K.jG;simp;omega
     unfold K.gQ;rw [<-FC.out,e1,e2];rfl)
    have Ue:x.sn<=1000000000:=by omega
    clear h1 h2;go_wp2_with fail;go_loopw [7] (λv7 wr=>∃ k:Nat,v7=.int .i64 k/\k<=x.sn/\Hid (K.gQ x=((x.ss.drop k).all (λs=>T.few s x.r 8) && T.few K.zeroS x.r 8))/\af w wr) (λv7 _=>x.sn - (intOf v7).toNat)
    case atStart=>exact ⟨0,rfl,by omega,by show _=_;rw [List.drop_zero];exact HH.out,hb1⟩
    case round =>
     obtain ⟨k,rfl,hk,hr,hW⟩:=hrel;by_cases hlt:k < x.sn
     ·obtain ⟨ad,s,hA,hg,-,c0,c1,c2,c3,c4,c5⟩:=(hSS.below hW).at_ hlt;rw [hA];have HA:=zC hA;have HD:=zC (D6 (p:=λs=>T.few s x.r 8) hg);have CF:=yU s x.B x.m x.d x.r 8 wr (hRR.below hW) (by omega);obtain ⟨z,hz⟩:=zB (T.few s x.r 8);rw [<-hz] at CF;have HZ:=zC hz;obtain ⟨k0,k1⟩:=zJ (a:=k) (b:=x.sn) (by omega);clear hz hg hA;go_wp2_with fail;refine CF.mono ?_;rintro e w2 ⟨rfl,b2⟩;have hb2:=bel hW b2;clear CF c0 c1 c2 c3 c4 c5;cases z with
      | false =>
       go_wp2_with fail;go_ret;exact ⟨by rw [hr.out,HD.out,<-HZ.out];rfl,hb2⟩
      | true =>
       go_wp2_with fail;go_roundw
       case rel=>exact ⟨k + 1,by go_num,by omega,by show _=_;rw [hr.out,HD.out,<-HZ.out,Bool.true_and],hb2⟩
       case measure=>simp [intOf];omega
     ·have HE:=zC (show K.gQ x=T.few K.zeroS x.r 8 by rw [hr.out,dF (by rw [<-hSS.1.1];omega)];rfl);have CZ:=yU K.zeroS x.B x.m x.d x.r 8 wr (hRR.below hW) (by omega);obtain ⟨k2,k2'⟩:=zL (a:=k) (b:=x.sn) (by omega);clear hlt;go_wp2_with fail;refine CZ.mono ?_;rintro e w2 ⟨rfl,b2⟩;go_wp2_with fail;go_ret;exact ⟨by rw [HE.out];rfl,bel hW b2⟩
   ·have CU:decide (4 < ((x.m:Nat):Int))=true:=by simp;omega
    have CV:decide (4 < x.m)=true:=by simp;omega
    have IX:decide (((x.m:Nat):Int)<=6)=false:=by simp;omega
    have IY:decide (x.m<=6)=false:=by simp;omega
    have IZ:decide (8 < ((x.m:Nat):Int))=true:=by simp;omega
    have I4:decide (8 < x.m)=true:=by simp;omega
    have HX:=zC (show K.gQ x=false by unfold K.gQ K.jG;simp;omega);go_wp2_with fail;go_ret;exact ⟨by rw [HX.out];rfl,hb1⟩
  by_cases h1:x.sn<=4
  ·have Vz:decide (2 < ((x.sn:Nat):Int))=true:=by simp;omega
   have VB:decide (2 < x.sn)=true:=by simp;omega
   have s2i:decide (((x.sn:Nat):Int)<=4)=true:=by simp;omega
   have s2n:decide (x.sn<=4)=true:=by simp;omega
   have HX:=zC (show K.gQ x=false by unfold K.gQ K.jG;simp;omega);go_wp2_with fail;go_ret;exact ⟨by rw [HX.out];rfl,hb1⟩
  by_cases h1:x.sn<=6
  ·have Vz:decide (2 < ((x.sn:Nat):Int))=true:=by simp;omega
   have VB:decide (2 < x.sn)=true:=by simp;omega
   have s2i:decide (((x.sn:Nat):Int)<=4)=false:=by simp;omega
   have s2n:decide (x.sn<=4)=false:=by simp;omega
   have s3i:decide (6 < ((x.sn:Nat):Int))=false:=by simp;omega
   have s3n:decide (6 < x.sn)=false:=by simp;omega
   by_cases h2:x.m<=4
   ·have CU:decide (4 < ((x.m:Nat):Int))=false:=by simp;omega
    have CV:decide (4 < x.m)=false:=by simp;omega
    have IZ:decide (8 < ((x.m:Nat):Int))=false:=by simp;omega
    have I4:decide (8 < x.m)=false:=by simp;omega
    have HH:=zC (show K.gQ x=(x.ss.all (λs=>T.few s x.r 8) && T.few K.zeroS x.r 8) by
     have e1:K.jG x.sn 2 4 6=false:=by unfold K.jG;simp;omega
     have e2:K.jG x.m 4 6 8=false:=by unfold K.jG;simp;omega
     unfold K.gQ;rw [<-FC.out,e1,e2];rfl)
    have Ue:x.sn<=1000000000:=by omega
    clear h1 h2;go_wp2_with fail;go_loopw [7] (λv7 wr=>∃ k:Nat,v7=.int .i64 k/\k<=x.sn/\Hid (K.gQ x=((x.ss.drop k).all (λs=>T.few s x.r 8) && T.few K.zeroS x.r 8))/\af w wr) (λv7 _=>x.sn - (intOf v7).toNat)
    case atStart=>exact ⟨0,rfl,by omega,by show _=_;rw [List.drop_zero];exact HH.out,hb1⟩
    case round =>
     obtain ⟨k,rfl,hk,hr,hW⟩:=hrel;by_cases hlt:k < x.sn
     ·obtain ⟨ad,s,hA,hg,-,c0,c1,c2,c3,c4,c5⟩:=(hSS.below hW).at_ hlt;rw [hA];have HA:=zC hA;have HD:=zC (D6 (p:=λs=>T.few s x.r 8) hg);have CF:=yU s x.B x.m x.d x.r 8 wr (hRR.below hW) (by omega);obtain ⟨z,hz⟩:=zB (T.few s x.r 8);rw [<-hz] at CF;have HZ:=zC hz;obtain ⟨k0,k1⟩:=zJ (a:=k) (b:=x.sn) (by omega);clear hz hg hA;go_wp2_with fail;refine CF.mono ?_;rintro e w2 ⟨rfl,b2⟩;have hb2:=bel hW b2;clear CF c0 c1 c2 c3 c4 c5;cases z with
      | false =>
       go_wp2_with fail;go_ret;exact ⟨by rw [hr.out,HD.out,<-HZ.out];rfl,hb2⟩
      | true =>
       go_wp2_with fail;go_roundw
       case rel=>exact ⟨k + 1,by go_num,by omega,by show _=_;rw [hr.out,HD.out,<-HZ.out,Bool.true_and],hb2⟩
       case measure=>simp [intOf];omega
     ·have HE:=zC (show K.gQ x=T.few K.zeroS x.r 8 by rw [hr.out,dF (by rw [<-hSS.1.1];omega)];rfl);have CZ:=yU K.zeroS x.B x.m x.d x.r 8 wr (hRR.below hW) (by omega);obtain ⟨k2,k2'⟩:=zL (a:=k) (b:=x.sn) (by omega);clear hlt;go_wp2_with fail;refine CZ.mono ?_;rintro e w2 ⟨rfl,b2⟩;go_wp2_with fail;go_ret;exact ⟨by rw [HE.out];rfl,bel hW b2⟩
   by_cases h2:x.m<=6
   ·have CU:decide (4 < ((x.m:Nat):Int))=true:=by simp;omega
    have CV:decide (4 < x.m)=true:=by simp;omega
    have IX:decide (((x.m:Nat):Int)<=6)=true:=by simp;omega
    have IY:decide (x.m<=6)=true:=by simp;omega
    have HX:=zC (show K.gQ x=false by unfold K.gQ K.jG;simp;omega);go_wp2_with fail;go_ret;exact ⟨by rw [HX.out];rfl,hb1⟩
   by_cases h2:x.m<=8
   ·have CU:decide (4 < ((x.m:Nat):Int))=true:=by simp;omega
    have CV:decide (4 < x.m)=true:=by simp;omega
    have IX:decide (((x.m:Nat):Int)<=6)=false:=by simp;omega
    have IY:decide (x.m<=6)=false:=by simp;omega
    have IZ:decide (8 < ((x.m:Nat):Int))=false:=by simp;omega
    have I4:decide (8 < x.m)=false:=by simp;omega
    have HH:=zC (show K.gQ x=(x.ss.all (λs=>T.few s x.r 8) && T.few K.zeroS x.r 8) by
     have e1:K.jG x.sn 2 4 6=false:=by unfold K.jG;simp;omega
     have e2:K.jG x.m 4 6 8=false:=by unfold K.jG;simp;omega
     unfold K.gQ;rw [<-FC.out,e1,e2];rfl)
    have Ue:x.sn<=1000000000:=by omega
    clear h1 h2;go_wp2_with fail;go_loopw [7] (λv7 wr=>∃ k:Nat,v7=.int .i64 k/\k<=x.sn/\Hid (K.gQ x=((x.ss.drop k).all (λs=>T.few s x.r 8) && T.few K.zeroS x.r 8))/\af w wr) (λv7 _=>x.sn - (intOf v7).toNat)
    case atStart=>exact ⟨0,rfl,by omega,by show _=_;rw [List.drop_zero];exact HH.out,hb1⟩
    case round =>
     obtain ⟨k,rfl,hk,hr,hW⟩:=hrel;by_cases hlt:k < x.sn
     ·obtain ⟨ad,s,hA,hg,-,c0,c1,c2,c3,c4,c5⟩:=(hSS.below hW).at_ hlt;rw [hA];have HA:=zC hA;have HD:=zC (D6 (p:=λs=>T.few s x.r 8) hg);have CF:=yU s x.B x.m x.d x.r 8 wr (hRR.below hW) (by omega);obtain ⟨z,hz⟩:=zB (T.few s x.r 8);rw [<-hz] at CF;have HZ:=zC hz;obtain ⟨k0,k1⟩:=zJ (a:=k) (b:=x.sn) (by omega);clear hz hg hA;go_wp2_with fail;refine CF.mono ?_;rintro e w2 ⟨rfl,b2⟩;have hb2:=bel hW b2;clear CF c0 c1 c2 c3 c4 c5;cases z with
      | false =>
       go_wp2_with fail;go_ret;exact ⟨by rw [hr.out,HD.out,<-HZ.out];rfl,hb2⟩
      | true =>
       go_wp2_with fail;go_roundw
       case rel=>exact ⟨k + 1,by go_num,by omega,by show _=_;rw [hr.out,HD.out,<-HZ.out,Bool.true_and],hb2⟩
       case measure=>simp [intOf];omega
     ·have HE:=zC (show K.gQ x=T.few K.zeroS x.r 8 by rw [hr.out,dF (by rw [<-hSS.1.1];omega)];rfl);have CZ:=yU K.zeroS x.B x.m x.d x.r 8 wr (hRR.below hW) (by omega);obtain ⟨k2,k2'⟩:=zL (a:=k) (b:=x.sn) (by omega);clear hlt;go_wp2_with fail;refine CZ.mono ?_;rintro e w2 ⟨rfl,b2⟩;go_wp2_with fail;go_ret;exact ⟨by rw [HE.out];rfl,bel hW b2⟩
   ·have CU:decide (4 < ((x.m:Nat):Int))=true:=by simp;omega
    have CV:decide (4 < x.m)=true:=by simp;omega
    have IX:decide (((x.m:Nat):Int)<=6)=false:=by simp;omega
    have IY:decide (x.m<=6)=false:=by simp;omega
    have IZ:decide (8 < ((x.m:Nat):Int))=true:=by simp;omega
    have I4:decide (8 < x.m)=true:=by simp;omega
    have HX:=zC (show K.gQ x=false by unfold K.gQ K.jG;simp;omega);go_wp2_with fail;go_ret;exact ⟨by rw [HX.out];rfl,hb1⟩
  ·have Vz:decide (2 < ((x.sn:Nat):Int))=true:=by simp;omega
   have VB:decide (2 < x.sn)=true:=by simp;omega
   have s2i:decide (((x.sn:Nat):Int)<=4)=false:=by simp;omega
   have s2n:decide (x.sn<=4)=false:=by simp;omega
   have s3i:decide (6 < ((x.sn:Nat):Int))=true:=by simp;omega
   have s3n:decide (6 < x.sn)=true:=by simp;omega
   have HX:=zC (show K.gQ x=false by unfold K.gQ K.jG;simp;omega);go_wp2_with fail;go_ret;exact ⟨by rw [HX.out];rfl,hb1⟩
theorem VC (A B:aj) (n m c d:Nat) (la lb:ag) (w:World) (hla:Ints w A n la) (hlb:Ints w B m lb) (hn:n<=1000000000) (hm:m<=1000000000) :
  ay 50 #[.slice A n c,.slice B m d] w (bg w (decide (la=lb))):=by
 by_cases hnm:n=m
 ·obtain rfl:=hnm;go_enter Tryz.func50,Tryz.ntmps50;go_wp2_with fail;go_loopw [5] (λvi wr=>∃ k:Nat,vi=.int .i64 k/\k<=n/\Hid (la.take k=lb.take k)/\af w wr) (λvi _=>n - (intOf vi).toNat)
  case atStart=>exact ⟨0,rfl,by omega,rfl,ai⟩
  case round =>
   obtain ⟨k,rfl,hk,hr,hb⟩:=hrel;by_cases hlt:k < n
   ·obtain ⟨ad,o,rfl,hg,c0⟩:=(hla.below hb).at_ hlt;obtain ⟨lM,o2,rfl,hg2,X6⟩:=(hlb.below hb).at_ hlt;have HN:=zC (VN hg hg2 hr.out);clear hg hg2;by_cases ho:o=o2
    ·have HX:=zC (HN.out.2 ho);subst ho;go_wp2_with fail;go_quiet (fail);go_wp2_with fail;go_roundw
     case rel=>exact ⟨k + 1,by go_num,by omega,HX.out,below_drewN hb _⟩
     case measure=>simp [intOf];omega
    ·have HX:=zC (λh=>ho (HN.out.1 h));have q2:(o == o2)=false:=by simpa using ho
     go_wp2_with fail;go_quiet (fail);go_wp2_with fail;go_ret;exact ⟨aK (Eq.symm (zI (λh=>HX.out (by rw [h])))),below_drewN hb _⟩
   ·have HX:=zC (show la=lb by
     have h:=hr.out;rw [fD (by rw [<-hla.1];omega),fD (by rw [<-hlb.1];omega)] at h;exact h)
    go_wp2_with fail;go_ret;exact ⟨aK (Eq.symm (zH HX.out)),hb⟩
 ·have HX:=zC (show ¬ la=lb from λh=>hnm (by rw [hla.1,hlb.1,h]));have q1:(((n:Nat):Int) != ((m:Nat):Int))=true:=by simp;omega
  go_enter Tryz.func50,Tryz.ntmps50;go_wp2_with fail;go_ret;exact ⟨aK (Eq.symm (zI HX.out)),ai⟩
theorem al9 {la lb:List TV} {k:Nat} {x y:TV} (hx:la[k]? = some x) (hy:lb[k]? = some y) (h:(la.take k).map TV.pr=(lb.take k).map TV.pr):(la.take (k + 1)).map TV.pr=(lb.take (k + 1)).map TV.pr ↔ x.pr=y.pr:=by
 obtain ⟨h1,e1⟩:=zE.1 hx;obtain ⟨h2,e2⟩:=zE.1 hy;rw [sV h1,sV h2,e1,e2,eG,eG,h];simp
theorem TV.aj' {x y:TV}:x.pr=y.pr ↔ x.sh=y.sh/\x.t.end_=y.t.end_/\x.t.stops=y.t.stops/\x.t.times=y.t.times:=by
 constructor
 ·intro h;have h1:x.sh=y.sh:=congrArg Prod.fst h;have h2:x.t=y.t:=congrArg Prod.snd h;exact ⟨h1,by rw [h2],by rw [h2],by rw [h2]⟩
 ·rintro ⟨h1,h2,h3,h4⟩;obtain ⟨sh,A,n,c,A',n',c',⟨st,ti,en⟩⟩:=x;obtain ⟨sh',B,m,d,B',m',d',⟨st',ti',en'⟩⟩:=y;simp at h1 h2 h3 h4;subst h1 h2 h3 h4;rfl
def Says (P:Prop) (e:Ending):Prop:=∃ z,e=.returned (.bool z)/\(z=true ↔ P)
theorem adH {P:Prop} (h:¬ P):Says P (.returned (.bool false)):=⟨false,rfl,λh=>(by cases h),λh2=>absurd h2 h⟩
theorem alk {P:Prop} (h:P):Says P (.returned (.bool true)):=⟨true,rfl,λ_=>h,λ_=>rfl⟩
theorem alg (A B:aj) (n m c d:Nat) (la lb:List TV) (w:World) (hla:ja w A n la) (hlb:ja w B m lb) (hn:n<=1000000000) (hm:m<=1000000000) (hsa:∀ y ∈ la,y.n<=1000000000/\y.n'<=1000000000) (hsb:∀ y ∈ lb,y.n<=1000000000/\y.n'<=1000000000) :
  ay 24 #[.slice A n c,.slice B m d] w λe w'=>Says (la.map TV.pr=lb.map TV.pr) e/\af w w':=by
 by_cases hnm:n=m
 ·obtain rfl:=hnm;go_enter Tryz.func24,Tryz.ntmps24;go_wp2_with fail;go_loopw [5] (λvi wr=>∃ k:Nat,vi=.int .i64 k/\k<=n/\Hid ((la.take k).map TV.pr=(lb.take k).map TV.pr)/\af w wr) (λvi _=>n - (intOf vi).toNat)
  case atStart=>exact ⟨0,rfl,by omega,rfl,ai⟩
  case round =>
   obtain ⟨k,rfl,hk,hr,hb⟩:=hrel;by_cases hlt:k < n
   ·obtain ⟨ad,x,rfl,hg,⟨hx1,hx2⟩,a0,a1,a2,a3⟩:=(hla.below hb).at_ hlt;obtain ⟨lM,y,rfl,hg2,⟨hy1,hy2⟩,c0,c1,c2,c3⟩:=(hlb.below hb).at_ hlt;have HN:=zC (al9 hg hg2 hr.out);obtain ⟨nx1,nx2⟩:=hsa x (zD hg);obtain ⟨ny1,ny2⟩:=hsb y (zD hg2);have C1:∀ i:ak wr,ay 50 #[.slice x.A x.n x.c,.slice y.A y.n y.c] i.val (bg i.val (decide (x.t.stops=y.t.stops))):=λi=>VC x.A y.A x.n y.n x.c y.c x.t.stops y.t.stops i.val (hx1.below i.property) (hy1.below i.property) nx1 ny1;have C2:∀ i:ak wr,ay 50 #[.slice x.A' x.n' x.c',.slice y.A' y.n' y.c'] i.val (bg i.val (decide (x.t.times=y.t.times))):=λi=>VC x.A' y.A' x.n' y.n' x.c' y.c' x.t.times y.t.times i.val (hx2.below i.property) (hy2.below i.property) nx2 ny2;have p0:=ak.cell a0;have p1:=ak.cell a1;have p2:=ak.cell a2;have p3:=ak.cell a3;have q0:=ak.cell c0;have q1:=ak.cell c1;have q2:=ak.cell c2;have q3:=ak.cell c3;obtain ⟨z1,hz1⟩:=zB ((x.sh != y.sh));obtain ⟨z2,hz2⟩:=zB ((x.t.end_ != y.t.end_));obtain ⟨z3,hz3⟩:=zB (decide (x.t.stops=y.t.stops));obtain ⟨z4,o8⟩:=zB (decide (x.t.times=y.t.times));have nH:=zC (show x.pr=y.pr ↔ (z1=false/\z2=false/\z3=true/\z4=true) by rw [TV.aj',hz1,hz2,hz3,o8];simp);rw [<-hz3] at C1;rw [<-o8] at C2;have e1:=hz1.symm;have e2:=hz2.symm;clear hz1 hz2 hz3 o8 a0 a1 a2 a3 c0 c1 c2 c3 hg hg2 hx1 hx2 hy1 hy2;obtain ⟨k0,k1⟩:=zJ (a:=k) (b:=n) (by omega);have HB:=zC hb;go_upto_region 6 with fail;have h5:z1=true\/(z1=false/\z2=true)\/(z1=false/\z2=false/\z3=false)\/(z1=false/\z2=false/\z3=true/\z4=false)\/(z1=false/\z2=false/\z3=true/\z4=true):=by
     cases z1 <;> cases z2 <;> cases z3 <;> cases z4 <;> simp
    rcases h5 with rfl | ⟨rfl,rfl⟩ | ⟨rfl,rfl,rfl⟩ | ⟨rfl,rfl,rfl,rfl⟩ | ⟨rfl,rfl,rfl,rfl⟩
    all_goals
     refine fV (by kernel_rfl) (by kernel_rfl) ?_;repeat (go_big_quiet_step ((first | (go_at_call_of 50 (TV.A x);exact ak.calls (C1 _)) | (go_at_call_of 50 (TV.A' x);exact ak.calls (C2 _)))))
     refine wpQuiet_nil ?_;rintro w4 ⟨⟨w4,b4⟩,rfl⟩;have hb4:=bel HB.out b4;clear C1 C2 p0 p1 p2 p3 q0 q1 q2 q3;go_wp2_with fail;first
      | (go_ret
         exact ⟨adH (λh=>absurd (HN.out.1 (by rw [List.map_take,List.map_take,h])) (by rw [nH.out];simp)),hb4⟩)
      | (go_roundw
         case rel=>exact ⟨k + 1,by go_num,by omega,HN.out.2 (nH.out.2 ⟨rfl,rfl,rfl,rfl⟩),hb4⟩
         case measure=>(simp [intOf];omega))
   ·have HX:=zC (show la.map TV.pr=lb.map TV.pr by
     have h:=hr.out;rw [fD (by rw [<-hla.1.1];omega),fD (by rw [<-hlb.1.1];omega)] at h;exact h)
    obtain ⟨k2,k2'⟩:=zL (a:=k) (b:=n) (by omega);clear hlt;go_wp2_with fail;go_ret;exact ⟨alk HX.out,hb⟩
 ·have HX:=zC (show ¬ la.map TV.pr=lb.map TV.pr from λh=>hnm (by rw [hla.1.1,hlb.1.1,<-bu (f:=TV.pr),h,bu]));have q1:(((n:Nat):Int) != ((m:Nat):Int))=true:=by simp;omega
  go_enter Tryz.func24,Tryz.ntmps24;go_wp2_with fail;go_ret;exact ⟨adH HX.out,ai⟩
namespace K
theorem YG {n a b c:Nat} (h:jG n a b c=false):n<=c/\(n<=b->n<=a):=by
 unfold jG at h;simp at h;omega
theorem agk {x:Cs} (h:gQ x=true) (hm:x.m=x.r.length):x.n<=40/\x.sn<=6/\x.m<=8/\(∀ s ∈ x.ss,s.n<=6)/\(∀ q ∈ x.r,q.n<=10)/\(x.sn<=4->x.sn<=2)/\(x.m<=6->x.m<=4):=by
 simp only [gQ,uV,dH,Bool.not_eq_true',gu] at h;obtain ⟨⟨-,h1⟩,h2,h3,h4,h5⟩:=h;obtain ⟨g1,g2⟩:=YG h2;obtain ⟨g3,g4⟩:=YG h3;refine ⟨h1,g1,g3,λs hs=>?_,λq hq=>?_,g2,g4⟩
 ·have:=List.all_eq_true.1 h4 s hs;simp only [T.few,dH,gu] at this;exact this.2.1
 ·simp only [T.few,dH,Bool.not_eq_true'] at h5;have:=List.any_eq_false.1 h5.1 q (by rw [fD (by omega)];exact hq);simpa using this
section
variable {nd : Int} {l : List Ro} {ss : List S} {r : List Q} {ts : List (Int × Tr)}
theorem Yh (h:checks nd l ss r ts=0):ts.length<=4/\∀ t ∈ ts,t.2.stops.length<=6/\t.2.times.length<=6:=by
 unfold checks at h;split at h
 case isFalse h1=>exact absurd h h1
 rename_i h1
 obtain ⟨-,hs4,-,-,hr6⟩:=kT h1;obtain ⟨g1,g2,-,-⟩:=Yc ts _ _ h;refine ⟨?_,λt ht=>?_⟩
 ·have hn:(ts.map λt=>t.1).Nodup:=by
   unfold List.Nodup;rw [List.pairwise_map];exact g2.imp λh=>Int.ne_of_lt h.1
  have:=IU (b:=(List.range ss.length).map λ(i:Nat)=>(i:Int)) hn λy hy=>by
   obtain ⟨t,ht,rfl⟩:=fE.1 hy;obtain ⟨-,hg⟩:=g1 t ht;obtain ⟨x,hx,-⟩:=hg.sh;have:=(zE.1 hx).1;have:=hg.pos;exact fE.2 ⟨t.1.toNat,by rw [List.mem_range];omega,by omega⟩
  rw [bu,bu,List.length_range] at this;omega
 ·obtain ⟨-,hg⟩:=g1 t ht;obtain ⟨x,-,hc⟩:=hg.sh;obtain ⟨c1,c2,c3⟩:=QC hc;have:=IU (b:=(List.range r.length).map λ(i:Nat)=>(i:Int)) c3 λy hy=>fE.2 ⟨y.toNat,by have:=c2 y hy;rw [List.mem_range];omega,by have:=c2 y hy;omega⟩;rw [bu,List.length_range] at this;refine ⟨by omega,?_⟩;unfold check at hc;simp only [dH,gu] at hc;obtain ⟨-,-,-,e⟩:=xY c1;rw [<-hc.2.1,e];have:=K.abj nd l x r t.2.stops [] x.ax x.start;show (all nd l x r t.2.stops).times.length<=6;unfold all;omega
end
end K
theorem YH {w:World} {A:aj} {n:Nat} {ts:List TV} (hT:ja w A n ts) (h:ts.length<=4/\∀ t ∈ ts.map TV.pr,t.2.stops.length<=6/\t.2.times.length<=6):Am n ts:=by
 refine ⟨by have:=hT.1.1;omega,λy hy=>?_⟩;have h1:=h.2 y.pr (List.mem_map_of_mem hy);have h2:=(hT.2 y hy).1.1;have h3:=(hT.2 y hy).2.1;have e1:y.pr.2.stops=y.t.stops:=rfl;have e2:y.pr.2.times=y.t.times:=rfl;rw [e1,e2] at h1;omega
def K.mF:List Ro:=[⟨0,1,10,-1⟩,⟨1,0,10,-1⟩]
def K.mY (A:aj) (c:Nat):S:=⟨1,0,0,60,0,A,1,c,[5]⟩
def K.eX (k:Int):Q:=⟨1,0,k,5,1,1,none,0,0,[]⟩
theorem Kq {ops:Array Oper} {rest:List Oper} {o:Oper} {a:Act} {Q':Exit->Act->World->Prop} {w:World} (hgd:o.guard=none) (s x:Operand)
  (ho:o.op=.call { callee:=.builtin .append,args:=#[s,x],argTypes:=#[26,26] })
  (base:Nat) (v:Value) (n:Nat) (l:List Q) (hs:a.eval s=v) (hown:w.ownsRow base 47 7 v n (l.flatMap Q.cells)) (g:Nat) (y:Q) (hx:a.eval x=.slice (some ⟨g,0,none⟩) 1 1)
  (hg:w.heap[g]? = some (.cells y.cells.toArray 47 (0,0))) (hn:n<=1000000) (hbase:base<=w.heap.size)
  (h:∀ v' w',w'.ownsRow base 47 7 v' (n + 1) ((l ++ [y]).flatMap Q.cells)->w.grownBy w' v.ownBlock->(v'.ownBlock=v.ownBlock\/v'.ownBlock=some w.heap.size)->wpList Tryz.prog ops Q' rest (a.put o.dst v') w') :
  wpList Tryz.prog ops Q' (o :: rest) a w:=by
 obtain ⟨i0,hi,hz0,hz1,hz2⟩:=info_parts Tryz.info47;refine wpList_append_own_at w hgd s x 26 ho base 47 i0 (.agg #[.int .i64 0,.int .i64 0,.int .i64 0,.int .i64 0,.int .i64 0,.int .i64 0,.slice none 0 0]) 7 72 Tryz.underlying26 hi hz0 hz1 hz2 rfl (by decide) v n (l.flatMap Q.cells) hs hown ⟨g,0,none⟩ 1 1 y.cells hx rfl ?_ ?_ ?_ ?_ hbase ?_
 ·intro j u hu;rw [lN];exact ah hg j u (by simpa using hu)
 ·intro u hu;simp [Q.cells] at hu;rcases hu with rfl | rfl | rfl | rfl | rfl | rfl | rfl <;> rfl
 ·simp only [maxLen];omega
 ·omega
 ·intro v' w' h2 h3 _ h5;exact h v' w' (by rw [List.flatMap_append];simpa using h2) h3 h5
theorem Ac:∀ l:List Q,rY l=l.flatMap Q.cells
 | []=>rfl
 | q :: l=>by rw [List.flatMap_cons,<-Ac l];rfl
namespace K
section
variable {nd : Int} {l : List Ro} {ss ss' : List S} {r r' : List Q}
theorem ajU (h1:aZ nd l=0) (h2:ss.length<=4) (h3:∀ s ∈ ss,T.check s=0/\s.ax < nd) (h4:∀ q ∈ r,T.right q=true/\q.node < nd) (h5:r.length<=6):bK nd l ss r=0:=by
 have a1:ss.any (kG nd)=false:=by
  rw [List.any_eq_false];intro s hs;obtain ⟨b1,b2⟩:=h3 s hs;simp [kG,b1];omega
 have a2:r.any (jR nd)=false:=by
  rw [List.any_eq_false];intro q hq;obtain ⟨b1,b2⟩:=h4 q hq;simp [jR,b1];omega
 unfold bK;rw [h1,zH h2,a1,a2,if_pos (by decide),if_neg (by omega)]
theorem aj3 (h:bK nd l ss r=0):(plan nd l ss r).2=0\/(plan nd l ss r).2=4:=by
 rcases Vj h with ⟨g,-⟩ | ⟨d,-,g⟩
 ·rw [g];exact .inr rfl
 ·rw [g];exact .inl rfl
end
end K
end Go.Proofs.YtippdjmpkafifaaGreat
