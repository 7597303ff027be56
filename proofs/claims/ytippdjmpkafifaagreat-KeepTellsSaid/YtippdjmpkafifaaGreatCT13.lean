import Derived.Test.YtippdjmpkafifaaGreatCT12
import Derived.Test.YtippdjmpkafifaaGreatCT11
import Derived.Test.YtippdjmpkafifaaGreatCT10
set_option maxRecDepth 100000
set_option maxHeartbeats 64000000
namespace Go.Proofs.YtippdjmpkafifaaGreat
open Go.RowKit
namespace A
theorem adU:∀ b:Fin 7,∀ n:Fin 7,∀ f:Fin 8,(fK b.val n.val f.val).length<=64:=by decide +kernel
theorem Ia {b n f:Nat} (hb:b<=6) (hn:n<=6) (hf:f<=7):(fK b n f).length<=64:=adU ⟨b,by omega⟩ ⟨n,by omega⟩ ⟨f,by omega⟩
theorem aaA (f k:Nat):List.range' f (k + 1)=List.range' f k ++ [f + k]:=by rw [List.range'_concat];simp
end A
def jJ (B:Nat) (L:List Sh):Prop:=∀ s ∈ L,0 < s.n->∀ ad,s.A=some ad->B<=ad.block
def MR (w w':World) (L:List (List Int)) (e:Ending):Prop:=(∃ E m c l,e=.returned (.slice E m c)/\eU w' E m l/\m<=c/\l.map Sh.l=L/\(∀ ad,E=some ad->w.heap.size<=ad.block)/\jJ w.heap.size l)/\Below w.heap.size w w'
def fH (w:World) (v:Value) (L:List Sh):Prop:=∀ s ∈ L,(Ints w s.A s.n s.l/\s.n<=s.c/\(s.A=none->s.n=0/\s.c=0))/\(0 < s.n->∀ ad,s.A=some ad->v.ownBlock ≠ some ad.block)
theorem fH.below {w w':World} {v:Value} {L:List Sh} (h:fH w v L) (hb:Below w.heap.size w w'):fH w' v L:=λs hs=>⟨⟨(h s hs).1.1.below hb,(h s hs).1.2⟩,(h s hs).2⟩
theorem BN {w:World} {base n:Nat} {v:Value} {L:List Sh} (h:w.ownsRow base 48 1 v n (L.map Sh.val)) (hn:n=L.length) (ho:fH w v L):∃ E c,v=.slice E n c/\eU w E n L/\n<=c/\∀ ad,E=some ad->base<=ad.block:=by
 have hnw:∀ E c,v=.slice E n c->∀ ad,E=some ad->base<=ad.block:=λE c e ad e2=>by
  obtain ⟨-,-,-,-,h3⟩:=dh h;exact (h3 ad.block (by rw [e,e2];rfl)).1
 rcases Nat.eq_zero_or_pos n with h0 | h0
 ·obtain ⟨A,c,e,hR,-⟩:=dh h;have hc:n<=c:=by omega
  have hL:L=[]:=List.length_eq_zero_iff.1 (by omega);exact ⟨A,c,e,⟨⟨hn,by rw [hL];simp [h0],λh=>absurd h (by omega)⟩,λs hs=>(ho s hs).1⟩,hc,hnw _ _ e⟩
 ·obtain ⟨g,cap,cur,e,-,hc,hr⟩:=abm h h0;exact ⟨_,cap,e,hr.ai λs hs=>(ho s hs).1,hc,hnw _ _ e⟩
theorem M_ {ops:Array Oper} {rest:List Oper} {o:Oper} {a:Act} {Q:Exit->Act->World->Prop} {w:World} (hgd:o.guard=none) (s x:Operand)
  (ho:o.op=.call { callee:=.builtin .append,args:=#[s,x],argTypes:=#[97,97] })
  (base:Nat) (v:Value) (n:Nat) (L:List Sh) (hs:a.eval s=v) (hown:w.ownsRow base 48 1 v n (L.map Sh.val)) (g:Nat) (y:Sh) (hx:a.eval x=.slice (some ⟨g,0,none⟩) 1 1)
  (hg:w.heap[g]? = some (.cells #[.slice y.A y.n y.c] 48 (0,0))) (hn:n<=1000000) (hbase:base<=w.heap.size)
  (h:∀ v' w',w'.ownsRow base 48 1 v' (n + 1) ((L ++ [y]).map Sh.val)->w.grownBy w' v.ownBlock->(v'.ownBlock=v.ownBlock\/v'.ownBlock=some w.heap.size)->wpList Tryz.prog ops Q rest (a.put o.dst v') w') :
  wpList Tryz.prog ops Q (o :: rest) a w:=by
 obtain ⟨i0,hi,hz0,hz1,hz2⟩:=info_parts Tryz.info48;refine wpList_append_own_at w hgd s x 97 ho base 48 i0 (.slice none 0 0) 1 24 Tryz.underlying97 hi hz0 hz1 hz2 rfl (by decide) v n (L.map Sh.val) hs hown ⟨g,0,none⟩ 1 1 [y.val] hx rfl ?_ ?_ ?_ ?_ hbase ?_
 ·intro j u hu;rw [jy];exact af hg j u (by simpa [Sh.val] using hu)
 ·intro u hu;simp at hu;subst hu;rfl
 ·simp only [maxLen];omega
 ·omega
 ·intro v' w' h2 h3 _ h5;exact h v' w' (by rw [List.map_append];exact h2) h3 h5
theorem fH.grow {w w':World} {v v':Value} {L:List Sh} (h:fH w v L) (hg:w.grownBy w' v.ownBlock) (ha:v'.ownBlock=v.ownBlock\/v'.ownBlock=some w.heap.size):fH w' v' L:=λs hs=>by
 obtain ⟨⟨h1,h2⟩,h3⟩:=h s hs;refine ⟨⟨h1.grow hg λh0 ad e e2=>h3 h0 ad e e2.symm,h2⟩,λh0 ad e e2=>?_⟩;rcases ha with e3 | e3
 ·rw [e3] at e2;exact h3 h0 ad e e2
 ·rw [e3] at e2;injection e2 with e2;have:=h1.nM h0 e;omega
theorem fH.snoc {w:World} {v:Value} {L:List Sh} (h:fH w v L) {y:Sh} (h1:Ints w y.A y.n y.l/\y.n<=y.c/\(y.A=none->y.n=0/\y.c=0)) (h2:0 < y.n->∀ ad,y.A=some ad->v.ownBlock ≠ some ad.block):fH w v (L ++ [y]):=λs hs=>by
 rcases List.mem_append.1 hs with hs | hs
 ·exact h s hs
 ·rw [List.mem_singleton] at hs;rw [hs];exact ⟨h1,h2⟩
theorem eU.grown {w w':World} {E:Option Addr} {n:Nat} {l:List Sh} {r:Option Nat} (h:eU w E n l) (hg:w.grownBy w' r) (hE:0 < n->∀ ad,E=some ad->some ad.block ≠ r) (hs:∀ s ∈ l,0 < s.n->∀ ad,s.A=some ad->some ad.block ≠ r):eU w' E n l:=by
 refine ⟨⟨h.1.1,h.1.2.1,λh0=>?_⟩,λs hm=>⟨(h.2 s hm).1.grow hg (hs s hm),(h.2 s hm).2⟩⟩;obtain ⟨ad,e,hc⟩:=h.1.2.2 h0;refine ⟨ad,e,λj u hu=>?_⟩;have c:=hc j u hu;exact (World.cell?_of_block (hg.block _ (cell_lt c) (by rw [add_block];exact hE h0 ad e))).trans c
theorem jJ.mono {B C:Nat} {L:List Sh} (h:jJ B L) (hc:C<=B):jJ C L:=λs hs h0 ad e=>Nat.le_trans hc (h s hs h0 ad e)
theorem jJ.snoc {B:Nat} {L:List Sh} {y:Sh} (h:jJ B L) (hy:0 < y.n->∀ ad,y.A=some ad->B<=ad.block):jJ B (L ++ [y]):=λs hs=>by
 rcases List.mem_append.1 hs with hs | hs
 ·exact h s hs
 ·rw [List.mem_singleton] at hs;rw [hs];exact hy
theorem ake {ops:Array Oper} {rest:List Oper} {o:Oper} {a:Act} {w w2:World} {Q:Exit->Act->World->Prop} (hgd:o.guard=none) (s x:Operand)
  (ho:o.op=.call { callee:=.builtin .append,args:=#[s,x],argTypes:=#[48,48] })
  (g:Nat) (i:Int) (hs:a.eval s=.slice (some ⟨g,0,none⟩) 1 1) (hg:w.heap[g]? = some (.cells #[.int .i64 i] 3 (0,0))) (hb2:Below w2.heap.size w2 w) (hbg:w2.heap.size<=g)
  {A:Option Addr} {m c:Nat} {l:List Int} (hx:a.eval x=.slice A m c) (hI:Ints w2 A m l) (hm:m<=1000000)
  (h:∀ B c w',Ints w' (some B) (m + 1) (i :: l)->m + 1<=c->Below w2.heap.size w2 w'->w2.heap.size<=B.block->wpList Tryz.prog ops Q rest (a.put o.dst (.slice (some B) (m + 1) c)) w') :
  wpList Tryz.prog ops Q (o :: rest) a w:=by
 obtain ⟨i0,hi,hz0,hz1,hz2⟩:=info_parts Tryz.info3;have hown:w.ownsRow w2.heap.size 3 1 (.slice (some ⟨g,0,none⟩) 1 1) 1 [.int .i64 i]:=⟨rfl,.inr ⟨g,1,_,rfl,hbg,hg,zG _,by simp [maxLen],rfl,rfl⟩⟩;refine jW hgd s x 48 ho w2.heap.size 3 i0 (.int .i64 0) 1 8 Tryz.underlying48 hi hz0 hz1 hz2 rfl (by decide) _ 1 [.int .i64 i] hs hown A m c (intCells l) hx (hI.below hb2).2 (λu hu=>?_) (by simp only [maxLen];omega) (by omega) hb2.size λv' w' h2 h3 h4=>?_
 ·obtain ⟨z,-,rfl⟩:=List.mem_map.1 hu;rfl
 ·have e:1 + m=m + 1:=by omega
  rw [e] at h2;have h2':w'.ownsRow w2.heap.size 3 1 v' (m + 1) (intCells (i :: l)):=h2;obtain ⟨-,⟨-,e0⟩ | ⟨g',cap,cur,rfl,hb',hh,hnc,-⟩⟩:=h2
  ·omega
  ·obtain ⟨A',c',e',hI'⟩:=mJ h2' (by rw [List.length_cons,<-hI.1]);injection e' with e1 e2 e3;subst e1 e3;exact h _ _ w' hI' hnc (wF hb2 (zG _) h3 λg' e=>(by have e:some g=some g':=e;injection e with e;omega)) hb'
theorem ajm (b:Nat) (hb6:b<=6):∀ (n f:Nat) (w:World),n<=6->f<=7->Calls Tryz.prog 74 #[.int .i64 f,.int .i64 b,.int .i64 n] w λe w'=>MR w w' (A.fK b n f) e:=by
 intro n;induction n with
 | zero =>
  intro f w _ hf;have hd:decide ((0:Int)=0)=true:=rfl;go_enter Tryz.func74,Tryz.ntmps74;go_wp2_with fail;go_ret;have hr:m_ (w.alloc (.cells #[.slice none 0 0] 48)) w.heap.size 1 #[.slice none 0 0] [⟨none,0,0,[]⟩]:=⟨heap_alloc_new _ _,rfl,λk s hk=>by
   cases k with
   | zero=>simp at hk;subst hk;rfl
   | succ k=>simp at hk⟩
  exact ⟨⟨_,1,1,[⟨none,0,0,[]⟩],rfl,hr.ai λs hs=>by rw [List.mem_singleton] at hs;rw [hs];exact ⟨gK _,zG _,λ_=>⟨rfl,rfl⟩⟩,zG _,rfl,λad e=>(by injection e with e;rw [<-e];exact zG _),λs hs h0=>(by rw [List.mem_singleton] at hs;rw [hs] at h0;exact absurd h0 (by simp))⟩,(Below.refl _ _).alloc (zG _) _⟩
 | succ n ih =>
  intro f w hn hf;have hd:decide (((n + 1:Nat):Int)=0)=false:=by simp;omega
  have hd2:(((n + 1:Nat):Int) == 0)=false:=by simp;omega
  obtain ⟨N,yH⟩:=zB (n + 1);rw [<-yH] at hd hd2 ⊢;have kN:IntKind.i64.wrap ((N:Int) - 1)=(n:Int):=by rw [IntWalk.i64_in _ (by omega)];omega
  have HC:=zC (show A.fK b N f=(List.range' f (b - f)).flatMap λi=>(A.fK b n (i + 1)).map ((i:Int) :: ·) by rw [yH];rfl);have hN0:((N:Int)=0)=False:=by simp;omega
  clear yH;go_enter Tryz.func74,Tryz.ntmps74;go_wp2_with fail;clear hd hd2 hN0;go_loopw [7,8] (λv7 v8 wr=>∃ (i:Nat) (L:List Sh),v8=.int .i64 i/\f<=i/\(i<=b\/i=f)/\wr.ownsRow w.heap.size 48 1 v7 L.length (L.map Sh.val)/\fH wr v7 L/\jJ w.heap.size L/\Below w.heap.size w wr/\L.length<=64 * (i - f)/\Hid (L.map Sh.l=(List.range' f (i - f)).flatMap λi=>(A.fK b n (i + 1)).map ((i:Int) :: ·))) (λ_ v8 _=>b - (intOf v8).toNat)
  case atStart=>exact ⟨f,[],rfl,zG _,.inr rfl,World.ownsRow_nil _ _ _ _,λs hs=>(by cases hs),λs hs=>(by cases hs),Below.refl _ _,Nat.zero_le _,by show _=_;rw [Nat.sub_self];rfl⟩
  case round =>
   obtain ⟨i,L,rfl,hfi,hib,hown,hro,hnw,hbr,hll,hcl⟩:=hrel;by_cases hlt:i < b
   ·obtain ⟨i1,hi1⟩:=zB (i + 1);have ki:IntKind.i64.wrap ((i:Int) + 1)=(i1:Int):=by rw [IntWalk.i64_in _ (by omega)];omega
    have CS:=ih i1 wr (by omega) (by omega);have HI1:=zC hi1;have hi7:i1<=6:=by omega
    obtain ⟨D,hD⟩:=zB (A.fK b n i1);have hDl:D.length<=64:=by rw [hD];exact A.Ia hb6 (by omega) (by omega)
    rw [<-hD] at CS;have HD:=zC hD;clear hi1 hD;go_wp2_with fail;refine CS.mono ?_;rintro e w2 ⟨⟨E,m,c,l,rfl,hSl,hmc,iW,ji,hln⟩,b2⟩;have hml:m<=64:=by rw [hSl.1.1,<-List.length_map (f:=Sh.l),iW];exact hDl
    have bJ:∀ s ∈ l,s.n<=6:=λs hs=>by
     rw [(hSl.2 s hs).1.1];have h9:s.l ∈ A.fK b n i1:=by rw [<-HD.out,<-iW];exact List.mem_map_of_mem hs
     have:=(A.xm.1 h9).1;omega
    have FE:0 < m->∀ ad,E=some ad->wr.heap.size<=ad.block/\ad.block < w2.heap.size:=λh0 ad e=>by
     obtain ⟨ad',s,e',-,-,hc⟩:=hSl.at_ h0;rw [e] at e';injection e' with e';exact ⟨ji ad e,by rw [e'];exact cell_lt hc⟩
    have FL:∀ s ∈ l,0 < s.n->∀ ad,s.A=some ad->wr.heap.size<=ad.block/\ad.block < w2.heap.size:=λs hs h0 ad e=>⟨hln s hs h0 ad e,(hSl.2 s hs).1.nM h0 e⟩;have hob:∀ g,u7.ownBlock=some g->g < wr.heap.size:=λg e=>(bG hown g e).2;have hown2:=own_below hown b2;have Jp:=hro.below b2;have hb2:=bel hbr b2;have hwr2:=b2.size;clear CS hown hro hbr b2 ji hln;go_wp2_with fail;obtain ⟨W2,hW2⟩:=zB w2.heap.size;obtain ⟨WQ,D8⟩:=zB wr.heap.size;rw [<-hW2,<-D8] at FE FL hwr2;rw [<-D8] at hob;go_loopw [7,27] (λv7 v27 wi=>∃ (j:Nat) (L':List Sh),v27=.int .i64 j/\j<=m/\wi.ownsRow w.heap.size 48 1 v7 L'.length (L'.map Sh.val)/\fH wi v7 L'/\jJ w.heap.size L'/\Below w.heap.size w wi/\W2<=wi.heap.size/\L'.length=L.length + j/\eU wi E m l/\(∀ g,v7.ownBlock=some g->g < WQ\/W2<=g)/\Hid (L'.map Sh.l=L.map Sh.l ++ (l.take j).map λs=>(i:Int) :: s.l)) (λ_ v27 _=>m - (intOf v27).toNat)
    case atStart=>exact ⟨0,L,rfl,Nat.zero_le _,hown2,Jp,hnw,hb2,Nat.le_of_eq hW2,rfl,hSl,λg e=>.inl (hob g e),by show _=_;rw [List.take_zero];simp⟩
    case round =>
     obtain ⟨j,L',rfl,hj,wZ,ED,mF,uB,hWI,mg,DZ,wY,hcI⟩:=hrel;by_cases hjm:j < m
     ·obtain ⟨ad,s,rfl,hg,⟨hI,hsc,hs0⟩,hc⟩:=DZ.at_ hjm;have j0:decide ((j:Int) < (m:Int))=true:=by simp;omega
      have js:IntKind.i64.wrap ((j:Int) + 1)=((j + 1:Nat):Int):=by rw [IntWalk.i64_in _ (by omega)];omega
      have hsm:=zD hg;have h6:=bJ s hsm;have HG:=zC hg;have H6:=zC h6;have Es:s.n<=1000000:=by omega
      have X9:L'.length<=1000000:=by omega
      have bA:Below wr.heap.size wr (wr.alloc (.cells #[.int .i64 i] 3)):=(Below.refl _ _).alloc (zG _) _;have h7:∀ g,u7.ownBlock=some g->w.heap.size<=g/\g < wr.heap.size:=λg e=>bG wZ g e;have qP:=zC mg;clear hg h6 mg;go_wp2_with (first
       | (at_builtin;refine ake rfl (.tmp 33) (.tmp 34) rfl wr.heap.size (i:Int) rfl (heap_alloc_new wr _) bA (zG _) rfl hI Es ?_;intro B c9 w9 iP oN bU kF;have DD:=bel bU ((Below.refl _ _).alloc (zG _) (.cells #[.slice (some B) (s.n + 1) c9] 48));have bs9:=(bel uB DD).size)
       | (at_builtin;refine M_ rfl (.tmp 31) (.tmp 36) rfl w.heap.size u7 L'.length L' rfl (own_below wZ DD) w9.heap.size ⟨some B,s.n + 1,c9,(i:Int) :: s.l⟩ rfl (heap_alloc_new w9 _) X9 bs9 ?_;intro v' w10 yZ nG uz))
      have hBl:B.block < w9.heap.size:=iP.nM (by omega) rfl;have h9s:w9.heap.size<=(w9.alloc (.cells #[.slice (some B) (s.n + 1) c9] 48)).heap.size:=((Below.refl w9.heap.size w9).alloc (zG _) _).size;have h9t:=bU.size;have h9u:=nG.size;go_roundw
      case rel =>
       refine ⟨j + 1,L' ++ [⟨some B,s.n + 1,c9,(i:Int) :: s.l⟩],by go_num,by omega,by rw [List.length_append];exact yZ,((ED.below DD).grow nG uz).snoc ⟨(iP.below ((Below.refl _ _).alloc (zG _) _)).grow nG λ_ ad e e2=>?_,oN,λe=>by cases e⟩ (λ_ ad e e2=>?_),mF.snoc (λ_ ad e=>?_),wF (bel uB DD) (zG _) nG (λg e=>(h7 g e).1),by omega,by rw [List.length_append,qP.out];simp;omega,(DZ.below DD).grown nG (λh0 ad e e2=>?_) (λt ht h0 ad e e2=>?_),λg e=>?_,?_⟩
       ·injection e with e;have:=(h7 _ e2.symm).2;rw [<-e] at this;omega
       ·injection e with e;rcases uz with e3 | e3
        ·rw [e3] at e2;have:=(h7 _ e2).2;rw [<-e] at this;omega
        ·rw [e3] at e2;injection e2 with e2;rw [<-e] at e2;omega
       ·injection e with e;have:=uB.size;rw [<-e];omega
       ·have a1:=FE h0 ad e;have a2:=wY _ e2.symm;omega
       ·have a1:=FL t ht h0 ad e;have a2:=wY _ e2.symm;omega
       ·rcases uz with e3 | e3
        ·rw [e3] at e;exact wY g e
        ·rw [e3] at e;injection e with e;omega
       ·show _=_;rw [List.map_append,hcI.out,List.take_add_one,HG.out];simp
      case measure=>simp [intOf];omega
     ·have j0:decide ((j:Int) < (m:Int))=false:=by simp;omega
      have qP:=zC mg;have HJ:=zC (show j=m by omega);clear mg;go_wp2_with fail;go_roundw
      case rel =>
       have hm:m=l.length:=hSl.1.1;refine ⟨i1,L',rfl,by rw [HI1.out];omega,.inl (by rw [HI1.out];omega),wZ,ED,mF,uB,by rw [qP.out,HI1.out];omega,?_⟩;show _=_;have e:i1 - f=(i - f) + 1:=by rw [HI1.out];omega
       have e2:f + (i - f)=i:=by omega
       rw [hcI.out,HJ.out,hm,List.take_length,e,A.aaA,List.flatMap_append,<-hcl.out,e2];rw [List.flatMap_singleton,<-HI1.out,<-HD.out,<-iW,List.map_map];rfl
      case measure=>simp [intOf];have:=HI1.out;omega
   ·have i0:decide ((i:Int) < (b:Int))=false:=by simp;omega
    go_wp2_with fail;go_ret;obtain ⟨E,c,rfl,hS,hc,hE⟩:=BN hown rfl hro;refine ⟨⟨E,_,c,L,rfl,hS,hc,?_,hE,hnw⟩,hbr⟩;rw [hcl.out,HC.out];congr 2;omega
theorem aih (G:Nat) (V:Option Addr) (vn vc:Nat) (v:List Int) (s:Sh) (w:World) (hG:w.heap[G]? = some (.cells #[.slice V vn vc] 48 (0,0))) (hs:Ints w s.A s.n s.l) (hn:s.n<=1000000000) (hV:Ints w V vn v) (hvn:vn<=1000000000) :
  Calls Tryz.prog 76 #[.slice s.A s.n s.c,.pointer (some ⟨G,0,none⟩)] w λe w'=>e=.returned (.bool (A.part s.l v))/\Below w.heap.size w w':=by
 have c0:=af hG 0 _ rfl;have CP:=aag s.A s.n s.c s.l V vn vc v w hs hn hV hvn;go_enter Tryz.func76,Tryz.ntmps76;go_wp2_with fail;refine CP.mono ?_;rintro e w1 ⟨rfl,hb1⟩;go_wp2_with fail;go_ret;exact ⟨rfl,hb1⟩
theorem afX (G:Nat) (E:Option Addr) (n c:Nat) (ai:List Sh) (V:Option Addr) (vn vc:Nat) (v:List Int) (w:World) (hl:eU w E n ai) (hn:n<=1000000000) (hG:w.heap[G]? = some (.cells #[.slice V vn vc] 48 (0,0))) (h6:∀ s ∈ ai,s.n<=1000000000) (hV:Ints w V vn v) (hvn:vn<=1000000000) :
  Calls Tryz.prog 126 #[.slice E n c,.func (.func 76) #[] #[.pointer (some ⟨G,0,none⟩)]] w λe w'=>(∃ i:Int,e=.returned (.int .i64 i)/\(decide (0<=i))=ai.any (λs=>A.part s.l v))/\Below w.heap.size w w':=by
 go_enter Tryz.func126,Tryz.ntmps126;go_wp2_with fail;go_loopw [8] (λvi wr=>∃ k:Nat,vi=.int .i64 k/\k<=n/\Hid (ai.any (λs=>A.part s.l v)=(ai.drop k).any (λs=>A.part s.l v))/\Below w.heap.size w wr) (λvi _=>n - (intOf vi).toNat)
 case atStart=>exact ⟨0,rfl,by omega,by show _=_;rw [List.drop_zero],Below.refl _ _⟩
 case round =>
  obtain ⟨k,rfl,hk,hr,hW⟩:=hrel;by_cases hlt:k < n
  ·obtain ⟨ad,s,rfl,hg,⟨hI,-⟩,c0⟩:=(hl.below hW).at_ hlt;have HS:=zC (lJ (p:=λs:Sh=>A.part s.l v) hg);have CB:=aih G V vn vc v s wr (az hW hG) hI (h6 s (zD hg)) (hV.below hW) hvn;obtain ⟨r9,b_⟩:=zB (A.part s.l v);rw [<-b_] at CB;have fZ:=zC b_;have k0:(0:Int)<=(k:Int):=by omega
   have k1:(k:Int) < (n:Int):=by omega
   clear hg b_ hI;go_wp2_with fail;refine CB.mono ?_;rintro e w1 ⟨rfl,hW1⟩;have hW2:=bel hW hW1;clear CB;cases r9
   ·go_wp2_with fail;go_roundw
    case rel=>exact ⟨k + 1,by go_num,by omega,by show _=_;rw [hr.out,HS.out,<-fZ.out];rfl,hW2⟩
    case measure=>simp [intOf];omega
   ·go_wp2_with fail;go_ret;exact ⟨⟨k,rfl,by rw [hr.out,HS.out,<-fZ.out];simp⟩,hW2⟩
  ·have hd:ai.drop k=[]:=List.drop_eq_nil_of_le (by rw [<-hl.1.1];omega);have HD:=zC hd;clear hd;go_wp2_with fail;go_ret;exact ⟨⟨-1,rfl,by rw [hr.out,HD.out];rfl⟩,hW⟩
theorem adV (G:Nat) (E:Option Addr) (n c:Nat) (ai:List Sh) (V:Option Addr) (vn vc:Nat) (v:List Int) (w:World) (hl:eU w E n ai) (hn:n<=1000000000) (hG:w.heap[G]? = some (.cells #[.slice V vn vc] 48 (0,0))) (h6:∀ s ∈ ai,s.n<=1000000000) (hV:Ints w V vn v) (hvn:vn<=1000000000) :
  Calls Tryz.prog 75 #[.slice E n c,.func (.func 76) #[] #[.pointer (some ⟨G,0,none⟩)]] w λe w'=>e=.returned (.bool ((ai.map Sh.l).any λu=>A.part u v))/\Below w.heap.size w w':=by
 have CI:=afX G E n c ai V vn vc v w hl hn hG h6 hV hvn;go_enter Tryz.func75,Tryz.ntmps75;go_wp2_with fail;refine CI.mono ?_;rintro e w1 ⟨⟨i,rfl,hi⟩,hb1⟩;go_wp2_with fail;go_ret;exact ⟨by rw [List.any_map];show _=Ending.returned (.bool (ai.any λs=>A.part s.l v));rw [<-hi];rfl,hb1⟩
namespace A
theorem QW {ok:List Int->Bool}:∀ (L1 own L2:List (List Int)),dS ok own (L1 ++ L2)=dS ok (dS ok own L1) L2
 | [],_,_=>rfl
 | v :: L1,own,L2=>by
  rw [List.cons_append,dS,dS];exact QW L1 _ L2
theorem Z_ {ok:List Int->Bool} {own L:List (List Int)} {v:List Int} (h:((dS ok own L).any λu=>part u v)=false) (h2:ok v=false):dS ok own (L ++ [v])=dS ok own L ++ [v]:=by
 rw [QW,dS,dS,h,h2];rfl
theorem QY {ok:List Int->Bool} {own L:List (List Int)} {v:List Int} (h:((dS ok own L).any λu=>part u v)=true\/ok v=true):dS ok own (L ++ [v])=dS ok own L:=by
 rw [QW,dS,dS];rcases h with h | h <;> rw [h] <;> simp
def upto (n k:Nat):List (List Int):=(List.range k).flatMap λk=>fK n (k + 1) 0
theorem upto_succ (n k:Nat):upto n (k + 1)=upto n k ++ fK n (k + 1) 0:=by unfold upto;rw [List.range_succ,List.flatMap_append,List.flatMap_singleton]
end A
namespace K
section
variable {nd : Int} {l : List Ro} {ss : List S} {r : List Q}
theorem aax (h:(plan nd l ss r).2=4):aH nd l ss r=0:=by
 unfold plan at h;split at h
 ·assumption
 ·rename_i h1
  exfalso;have h:aH nd l ss r=4:=h;unfold aH at h;split at h
  ·split at h <;> cases h
  ·cases h
theorem aaL (h:(plan nd l ss r).2=0):refute nd l ss r=([],7):=by unfold refute;rw [if_pos h]
theorem aaK (h:(plan nd l ss r).2 ≠ 0) (h2:(plan nd l ss r).2 ≠ 4):refute nd l ss r=([],(plan nd l ss r).2):=by unfold refute;rw [if_neg h,if_neg h2]
theorem aaJ (h:(plan nd l ss r).2=4):refute nd l ss r=((u_ nd l ss r).map (pV nd l ss r),0):=by unfold refute;rw [if_neg (by rw [h];decide),if_pos h]
theorem Zd {s:S} {v:List Int} (h:v.length<=6):(aS nd l s r v).length<=384:=by
 unfold aS;split
 ·refine Nat.le_trans (KG _ _ _) ?_;have:2 ^ v.length<=2 ^ 6:=Nat.pow_le_pow_right (by omega) h;exact Nat.le_trans (Nat.mul_le_mul this h) (by decide)
 ·exact Nat.zero_le _
def t_ (nd:Int) (l:List Ro) (ss:List S) (r:List Q) (s:Nat):List (Int × List Int × List Lb):=(List.range s).flatMap λs=>(A.own (bM nd l ss r s) r.length).map λv=>((s:Int),(pV nd l ss r (s,v)).2)
theorem U8 (s:Nat):t_ nd l ss r (s + 1)=t_ nd l ss r s ++ (A.own (bM nd l ss r s) r.length).map λv=>((s:Int),(pV nd l ss r (s,v)).2):=by unfold t_;rw [List.range_succ,List.flatMap_append,List.flatMap_singleton]
theorem U7:((u_ nd l ss r).map (pV nd l ss r)).map (λb=>((b.1:Int),b.2))=t_ nd l ss r ss.length:=by
 unfold u_ t_;rw [List.map_map,List.map_flatMap];congr 1;funext s
 rw [List.map_map];rfl
end
end K
theorem eU.ext {w w':World} {E:Option Addr} {n:Nat} {l:List Sh} (h:eU w E n l) (he:Ext w w'):eU w' E n l:=⟨aQ.ext h.1 he,λs hs=>⟨(h.2 s hs).1.ext he,(h.2 s hs).2⟩⟩
theorem fH.ext {w w':World} {v:Value} {L:List Sh} (h:fH w v L) (he:Ext w w'):fH w' v L:=λs hs=>⟨⟨(h s hs).1.1.ext he,(h s hs).1.2⟩,(h s hs).2⟩
def je (E:Option Addr) (m:Nat) (v:Value):Prop:=0 < m->∀ ad,E=some ad->v.ownBlock ≠ some ad.block
theorem je.grow {w:World} {v v':Value} {E:Option Addr} {m:Nat} {l:List Sh} (h:je E m v) (hS:eU w E m l) (ha:v'.ownBlock=v.ownBlock\/v'.ownBlock=some w.heap.size):je E m v':=λh0 ad e e2=>by
 rcases ha with e3 | e3
 ·rw [e3] at e2;exact h h0 ad e e2
 ·rw [e3] at e2;injection e2 with e2;obtain ⟨ad',s,e',-,-,hc⟩:=hS.at_ h0;rw [e] at e';injection e' with e';subst e';have:=cell_lt hc;rw [add_block] at this;omega
def kM (w:World) (v:Value) (bl:List BV):Prop:=∀ y ∈ bl,(Ints w y.V y.vn y.v/\dX w y.LA y.ln y.lb)/\je y.V y.vn v/\je y.LA y.ln v/\(y.vn<=y.vc/\y.vn<=6/\y.ln<=384)
theorem kM.ext {w w':World} {v:Value} {bl:List BV} (h:kM w v bl) (he:Ext w w'):kM w' v bl:=λy hy=>⟨⟨(h y hy).1.1.ext he,aQ.ext (h y hy).1.2 he⟩,(h y hy).2⟩
theorem kM.below {w w':World} {v:Value} {bl:List BV} (h:kM w v bl) (hb:Below w.heap.size w w'):kM w' v bl:=h.ext (Ext.below hb)
theorem dX.grow {w w':World} {A:Option Addr} {n:Nat} {l:List Lb} {r:Option Nat} (h:dX w A n l) (hg:w.grownBy w' r) (hne:0 < n->∀ ad,A=some ad->some ad.block ≠ r):dX w' A n l:=by
 refine ⟨h.1,h.2.1,λh0=>?_⟩;obtain ⟨ad,e,hc⟩:=h.2.2 h0;refine ⟨ad,e,λj u hu=>?_⟩;have c:=hc j u hu;exact (World.cell?_of_block (hg.block _ (cell_lt c) (by rw [add_block];exact hne h0 ad e))).trans c
theorem dX.nM {w:World} {A:Option Addr} {n:Nat} {l:List Lb} (h:dX w A n l) (h0:0 < n) {ad:Addr} (e:A=some ad):ad.block < w.heap.size:=by
 obtain ⟨ad',e',hc⟩:=h.2.2 h0;rw [e] at e';injection e' with e';have hl:0 < (l.flatMap jR).length:=by rw [h.2.1];omega
 have:=cell_lt (hc 0 _ (zF hl));rw [add_block,<-e'] at this;exact this
theorem kM.grow {w w':World} {v v':Value} {bl:List BV} (h:kM w v bl) (hg:w.grownBy w' v.ownBlock) (ha:v'.ownBlock=v.ownBlock\/v'.ownBlock=some w.heap.size):kM w' v' bl:=λy hy=>by
 obtain ⟨⟨h1,h2⟩,h3,h4,h5⟩:=h y hy;refine ⟨⟨h1.grow hg λh0 ad e e2=>h3 h0 ad e e2.symm,h2.grow hg λh0 ad e e2=>h4 h0 ad e e2.symm⟩,λh0 ad e e2=>?_,λh0 ad e e2=>?_,h5⟩
 ·rcases ha with e3 | e3
  ·rw [e3] at e2;exact h3 h0 ad e e2
  ·rw [e3] at e2;injection e2 with e2;have:=h1.nM h0 e;omega
 ·rcases ha with e3 | e3
  ·rw [e3] at e2;exact h4 h0 ad e e2
  ·rw [e3] at e2;injection e2 with e2;have:=h2.nM h0 e;omega
theorem kM.snoc {w:World} {v:Value} {bl:List BV} (h:kM w v bl) {y:BV} (h1:(Ints w y.V y.vn y.v/\dX w y.LA y.ln y.lb)/\je y.V y.vn v/\je y.LA y.ln v/\(y.vn<=y.vc/\y.vn<=6/\y.ln<=384)):kM w v (bl ++ [y]):=λs hs=>by
 rcases List.mem_append.1 hs with hs | hs
 ·exact h s hs
 ·rw [List.mem_singleton] at hs;rw [hs];exact h1
theorem Tryz.info90:(Tryz.prog.info? 90).map (λi=>(i.zero,i.size,i.bytes))=some (some (.agg #[.int .i64 0,.slice none 0 0,.slice none 0 0]),3,56):=by kernel_rfl
theorem abO {ops:Array Oper} {o:Oper} {a:Act} {w w2:World} {K:Act->World->Prop} {Q:Exit->Act->World->Prop} {E:Prop} (hgd:o.guard=none) (s x:Operand)
  (ho:o.op=.call { callee:=.builtin .append,args:=#[s,x],argTypes:=#[28,28] })
  {base:Nat} {v:Value} {n:Nat} {l:List BV} (hown:w2.ownsRow base 90 3 v n (l.flatMap BV.cells)) (hbase:base<=w2.heap.size) (hs:a.eval s=v) (g:Nat) (y:BV) (hx:a.eval x=.slice (some ⟨g,0,none⟩) 1 1)
  (hw:Below w2.heap.size w2 w) (hg:w.heap[g]? = some (.cells #[.int .i64 y.sh,.slice y.V y.vn y.vc,.slice y.LA y.ln y.lc] 90 (0,0))) (hn:n<=1000000)
  (h:∀ v' w',w'.ownsRow base 90 3 v' (n + 1) ((l ++ [y]).flatMap BV.cells)->w.grownBy w' v.ownBlock->(v'.ownBlock=v.ownBlock\/v'.ownBlock=some w.heap.size)->K (a.put o.dst v') w') :
  if Region.wanted o (yielded ops a.tmps)=true then Oper.wp Tryz.prog o a w K Q else E:=by
 obtain ⟨i0,hi,hz0,hz1,hz2⟩:=info_parts Tryz.info90;refine pg hgd s x 28 ho base 90 i0 (.agg #[.int .i64 0,.slice none 0 0,.slice none 0 0]) 3 56 Tryz.underlying28 hi hz0 hz1 hz2 rfl (by decide) v n (l.flatMap BV.cells) hs (own_below hown hw) (some ⟨g,0,none⟩) 1 1 y.cells hx ⟨rfl,λ_=>⟨_,rfl,λj u hu=>by rw [jy];exact af hg j u (by simpa [BV.cells] using hu)⟩⟩ (λu hu=>?_) (by simp only [maxLen];omega) (by omega) (Nat.le_trans hbase hw.size) ?_
 ·simp [BV.cells] at hu;rcases hu with rfl | rfl | rfl <;> rfl
 ·intro v' w' h2 h3 h4;exact h v' w' (by rw [List.flatMap_append];simpa using h2) h3 h4
def acD (w w':World) (p:List (Int × List Int × List Lb)) (er:Int) (e:Ending):Prop :=
 (∃ A n c bl,e=.returned (.tuple #[.slice A n c,.int .i64 er])/\fA w' A n bl/\n<=c/\sO n bl/\bl.map BV.pr=p)/\Below w.heap.size w w'
theorem dQ.app {w0 w w':World} {b mb gb:Nat} {x:Cs} {X X':Nat->Prop} {ai:List Sh} {v v':Value} (h:dQ w0 w b mb gb x X ai) (hg:w.grownBy w' v.ownBlock) (hv:∀ g,v.ownBlock=some g->X g) (ha:v'.ownBlock=v.ownBlock\/v'.ownBlock=some w.heap.size) (hX:∀ g,X' g->X g\/v'.ownBlock=some g):dQ w0 w' b mb gb x X' ai:=by
 refine ((h.turn (Y:=λg=>X g\/g=w.heap.size) (λg h=>h.elim .inl λe=>.inr (by rw [e];exact zG _))).own hg (λg e=>.inl (hv g e))).turn λg h=>.inl ?_;rcases hX g h with h | h
 ·exact .inl h
 ·rcases ha with e | e
  ·rw [e] at h;exact .inl (hv g h)
  ·rw [e] at h;injection h with h;exact .inr h.symm
theorem aeC {ws w w':World} {r:Option Nat} (h:ws.grownBy w r) (hb:Below w.heap.size w w'):ws.grownBy w' r:=h.andThen (row':=none) ⟨hb.os,hb.tape,hb.output,hb.size,λq hq _=>hb.block q hq⟩ (λ_ e=>by cases e)
structure Mid (w1 ws w:World) (b mb gb:Nat) (x:Cs) (ai:List Sh) (u v:Value) (BS:Nat) (own:List Sh) (E:Option Addr) (m:Nat) (l:List Sh):Prop where
 row:w.ownsRow BS 48 1 v own.length (own.map Sh.val)
 ok:fH w v own
 pl:dQ w1 w b mb gb x (λg=>u.ownBlock=some g\/v.ownBlock=some g) ai
 gr:ws.grownBy w (some mb)
 sh:eU w E m l
 off:je E m v
 lk:fH w v l
theorem Mid.below {w1 ws w w':World} {b mb gb:Nat} {x:Cs} {ai:List Sh} {u v:Value} {BS:Nat} {own:List Sh} {E:Option Addr} {m:Nat} {l:List Sh} (h:Mid w1 ws w b mb gb x ai u v BS own E m l) (hb:Below w.heap.size w w'):Mid w1 ws w' b mb gb x ai u v BS own E m l :=
 ⟨own_below h.row hb,h.ok.below hb,h.pl.below hb,aeC h.gr hb,h.sh.below hb,h.off,h.lk.below hb⟩
theorem Mid.best {w1 ws w w':World} {b mb gb:Nat} {x:Cs} {ai:List Sh} {u v:Value} {BS:Nat} {own:List Sh} {E:Option Addr} {m:Nat} {l:List Sh} (h:Mid w1 ws w b mb gb x ai u v BS own E m l) (hg:w.grownBy w' (some mb)) (hp:dQ w1 w' b mb gb x (λg=>u.ownBlock=some g\/v.ownBlock=some g) ai):Mid w1 ws w' b mb gb x ai u v BS own E m l :=
 ⟨h.row.kept hg (.inr λe=>(h.pl.away mb (.inr e)).2.2.1 rfl),h.ok.ext (h.pl.memo.ext hg),hp,h.gr.trans hg,h.sh.ext (h.pl.memo.ext hg),h.off,h.lk.ext (h.pl.memo.ext hg)⟩
theorem Mid.app {w1 ws w w':World} {b mb gb:Nat} {x:Cs} {ai:List Sh} {u v v':Value} {BS:Nat} {own:List Sh} {E:Option Addr} {m:Nat} {l:List Sh} (h:Mid w1 ws w b mb gb x ai u v BS own E m l) {y:Sh} (hy:y ∈ l) (hg:w.grownBy w' v.ownBlock) (ha:v'.ownBlock=v.ownBlock\/v'.ownBlock=some w.heap.size) (hr:w'.ownsRow BS 48 1 v' (own.length + 1) ((own ++ [y]).map Sh.val)) (hBS:BS=ws.heap.size):Mid w1 ws w' b mb gb x ai u v' BS (own ++ [y]) E m l:=by
 have h1:=h.lk.grow hg ha;refine ⟨by rw [List.length_append];exact hr,(h.ok.grow hg ha).snoc (h1 y hy).1 (h1 y hy).2,h.pl.app hg (λg e=>.inr e) ha (λg e=>e.elim (λe=>.inl (.inl e)) .inr),h.gr.andThen hg (λj e=>.inl (by rw [<-hBS];exact (bG h.row j e).1)),h.sh.grown hg (λh0 ad e e2=>h.off h0 ad e e2.symm) (λs hs h0 ad e e2=>(h.lk s hs).2 h0 ad e e2.symm),h.off.grow h.sh ha,h1⟩
structure vG (w1 w:World) (b mb gb:Nat) (x:Cs) (ai:List Sh) (v:Value) (B1:Nat) (bl:List BV) (E:Option Addr) (n:Nat) (own:List Sh):Prop where
 row:w.ownsRow B1 90 3 v bl.length (bl.flatMap BV.cells)
 ok:kM w v bl
 pl:dQ w1 w b mb gb x (λg=>v.ownBlock=some g) ai
 sh:eU w E n own
 off:je E n v
 lk:fH w v own
theorem vG.below {w1 w w':World} {b mb gb:Nat} {x:Cs} {ai:List Sh} {v:Value} {B1:Nat} {bl:List BV} {E:Option Addr} {n:Nat} {own:List Sh} (h:vG w1 w b mb gb x ai v B1 bl E n own) (hb:Below w.heap.size w w'):vG w1 w' b mb gb x ai v B1 bl E n own :=
 ⟨own_below h.row hb,h.ok.below hb,h.pl.below hb,h.sh.below hb,h.off,h.lk.below hb⟩
theorem vG.app {w1 w w':World} {b mb gb:Nat} {x:Cs} {ai:List Sh} {v v':Value} {B1:Nat} {bl:List BV} {E:Option Addr} {n:Nat} {own:List Sh} (h:vG w1 w b mb gb x ai v B1 bl E n own) {y:BV} (hy:(Ints w y.V y.vn y.v/\dX w y.LA y.ln y.lb)/\je y.V y.vn v/\je y.LA y.ln v/\(y.vn<=y.vc/\y.vn<=6/\y.ln<=384)) (hg:w.grownBy w' v.ownBlock) (ha:v'.ownBlock=v.ownBlock\/v'.ownBlock=some w.heap.size) (hr:w'.ownsRow B1 90 3 v' (bl.length + 1) ((bl ++ [y]).flatMap BV.cells)):vG w1 w' b mb gb x ai v' B1 (bl ++ [y]) E n own :=
 ⟨by rw [List.length_append];exact hr,(h.ok.snoc hy).grow hg ha,h.pl.app hg (λg e=>e) ha (λg e=>.inr e),h.sh.grown hg (λh0 ad e e2=>h.off h0 ad e e2.symm) (λs hs h0 ad e e2=>(h.lk s hs).2 h0 ad e e2.symm),h.off.grow h.sh ha,h.lk.grow hg ha⟩
theorem aej (A:Option Addr) (n c:Nat) (ts:List TV) (w:World) (hT:dY w A n ts) :
  Calls Tryz.prog 18 #[.slice A n c] w λe w'=>(∃ z,e=.returned (.bool z)/\(z=true->n<=6/\∀ y ∈ ts,y.n<=10/\y.n'<=10))/\Below w.heap.size w w':=by
 go_enter Tryz.func18,Tryz.ntmps18;go_wp2_with fail;go_loopw [3] (λv3 wr=>∃ k:Nat,v3=.int .i64 k/\k<=n/\k<=6/\(∀ (i:Nat) (y:TV),ts[i]? = some y->i < k->y.n<=10/\y.n'<=10)/\Below w.heap.size w wr) (λv3 _=>n - (intOf v3).toNat)
 case atStart=>exact ⟨0,rfl,by omega,by omega,λi y _ h=>absurd h (by omega),Below.refl _ _⟩
 case round =>
  obtain ⟨k,rfl,hk,hk6,hf,hW⟩:=hrel;by_cases hlt:k < n/\k < 6
  ·obtain ⟨hlt,bJ⟩:=hlt;obtain ⟨ad,y,rfl,hg,-,t0,t1,t2,t3⟩:=(hT.below hW).at_ hlt;have k0:(0:Int)<=(k:Int):=by omega
   have k1:(k:Int) < (n:Int):=by omega
   have k2:decide ((k:Int) < (n:Int))=true:=by simp;omega
   have k3:decide ((k:Int) < 6)=true:=by simp;omega
   have ks:IntKind.i64.wrap ((k:Int) + 1)=((k + 1:Nat):Int):=by rw [IntWalk.i64_in _ (by omega)];omega
   have HG:=zC hg;clear hg;by_cases h1:10 < y.n
   ·have d1:decide ((10:Int) < (y.n:Int))=true:=by simp;omega
    have d2:decide (10 < y.n)=true:=by simp;omega
    clear h1;go_wp2_with fail;go_ret;exact ⟨⟨false,rfl,λh=>(by cases h)⟩,hW⟩
   ·have d1:decide ((10:Int) < (y.n:Int))=false:=by simp;omega
    have d2:decide (10 < y.n)=false:=by simp;omega
    by_cases h2:10 < y.n'
    ·have d3:decide ((10:Int) < (y.n':Int))=true:=by simp;omega
     have d4:decide (10 < y.n')=true:=by simp;omega
     clear h1 h2;go_wp2_with fail;go_ret;exact ⟨⟨false,rfl,λh=>(by cases h)⟩,hW⟩
    ·have d3:decide ((10:Int) < (y.n':Int))=false:=by simp;omega
     have d4:decide (10 < y.n')=false:=by simp;omega
     have KZ:=zC (show y.n<=10/\y.n'<=10 by omega);clear h1 h2;go_wp2_with fail;go_roundw
     case rel =>
      refine ⟨k + 1,by go_num,by omega,by omega,λi z hz hi=>?_,hW⟩;by_cases e:i=k
      ·rw [e,HG.out] at hz;injection hz with hz;rw [<-hz];exact KZ.out
      ·exact hf i z hz (by omega)
     case measure=>simp [intOf];omega
  ·have HF:=zC (show n<=6->∀ y ∈ ts,y.n<=10/\y.n'<=10 from λh y hy=>by
    obtain ⟨i,hi,e⟩:=List.mem_iff_getElem.1 hy;have:=hT.1.1;exact hf i y (by rw [zF hi,e]) (by omega))
   by_cases hkn:k < n
   ·have k2:decide ((k:Int) < (n:Int))=true:=by simp;omega
    have k2':decide (k < n)=true:=by simp;omega
    have k3:decide ((k:Int) < 6)=false:=by simp;omega
    have hlt':¬ k < 6:=λh=>hlt ⟨hkn,h⟩;have HZ:=zC (show decide ((n:Int)<=6)=false by simp;omega);clear hlt hkn hlt';go_wp2_with fail;go_ret;exact ⟨⟨_,rfl,λh=>absurd (h.symm.trans (by first | exact HZ.out | (have h9:=HZ.out;simp at h9 ⊢;omega))) (by decide)⟩,hW⟩
   ·have k2:decide ((k:Int) < (n:Int))=false:=by simp;omega
    have k2':decide (k < n)=false:=by simp;omega
    clear hlt hkn;go_wp2_with fail;go_ret;exact ⟨⟨_,rfl,λh=>(by have h9:n<=6:=(by simp at h;omega);exact ⟨h9,HF.out h9⟩)⟩,hW⟩
theorem aeg (A:Option Addr) (n c:Nat) (ts:List BV) (w:World) (hT:fA w A n ts) :
  Calls Tryz.prog 19 #[.slice A n c] w λe w'=>(∃ z,e=.returned (.bool z)/\(z=true->n<=202/\∀ y ∈ ts,y.vn<=6/\y.ln<=60))/\Below w.heap.size w w':=by
 go_enter Tryz.func19,Tryz.ntmps19;go_wp2_with fail;go_loopw [3] (λv3 wr=>∃ k:Nat,v3=.int .i64 k/\k<=n/\k<=210/\(∀ (i:Nat) (y:BV),ts[i]? = some y->i < k->y.vn<=6/\y.ln<=60)/\Below w.heap.size w wr) (λv3 _=>n - (intOf v3).toNat)
 case atStart=>exact ⟨0,rfl,by omega,by omega,λi y _ h=>absurd h (by omega),Below.refl _ _⟩
 case round =>
  obtain ⟨k,rfl,hk,hk6,hf,hW⟩:=hrel;by_cases hlt:k < n/\k < 210
  ·obtain ⟨hlt,bJ⟩:=hlt;obtain ⟨ad,y,rfl,hg,-,c0,c1,c2⟩:=(hT.below hW).at_ hlt;have k0:(0:Int)<=(k:Int):=by omega
   have k1:(k:Int) < (n:Int):=by omega
   have k2:decide ((k:Int) < (n:Int))=true:=by simp;omega
   have k3:decide ((k:Int) < 210)=true:=by simp;omega
   have ks:IntKind.i64.wrap ((k:Int) + 1)=((k + 1:Nat):Int):=by rw [IntWalk.i64_in _ (by omega)];omega
   have HG:=zC hg;clear hg;by_cases h1:6 < y.vn
   ·have d1:decide ((6:Int) < (y.vn:Int))=true:=by simp;omega
    have d2:decide (6 < y.vn)=true:=by simp;omega
    clear h1;go_wp2_with fail;go_ret;exact ⟨⟨false,rfl,λh=>(by cases h)⟩,hW⟩
   ·have d1:decide ((6:Int) < (y.vn:Int))=false:=by simp;omega
    have d2:decide (6 < y.vn)=false:=by simp;omega
    by_cases h2:60 < y.ln
    ·have d3:decide ((60:Int) < (y.ln:Int))=true:=by simp;omega
     have d4:decide (60 < y.ln)=true:=by simp;omega
     clear h1 h2;go_wp2_with fail;go_ret;exact ⟨⟨false,rfl,λh=>(by cases h)⟩,hW⟩
    ·have d3:decide ((60:Int) < (y.ln:Int))=false:=by simp;omega
     have d4:decide (60 < y.ln)=false:=by simp;omega
     have KZ:=zC (show y.vn<=6/\y.ln<=60 by omega);clear h1 h2;go_wp2_with fail;go_roundw
     case rel =>
      refine ⟨k + 1,by go_num,by omega,by omega,λi z hz hi=>?_,hW⟩;by_cases e:i=k
      ·rw [e,HG.out] at hz;injection hz with hz;rw [<-hz];exact KZ.out
      ·exact hf i z hz (by omega)
     case measure=>simp [intOf];omega
  ·have HF:=zC (show n<=202->∀ y ∈ ts,y.vn<=6/\y.ln<=60 from λh y hy=>by
    obtain ⟨i,hi,e⟩:=List.mem_iff_getElem.1 hy;have:=hT.1.1;exact hf i y (by rw [zF hi,e]) (by omega))
   by_cases hkn:k < n
   ·have hb:¬ k < 210:=λh=>hlt ⟨hkn,h⟩;have k2:decide ((k:Int) < (n:Int))=true:=by simp;omega
    have k2':decide (k < n)=true:=by simp;omega
    have k3:decide ((k:Int) < 210)=false:=by simp;omega
    have k3':decide (k < 210)=false:=by simp;omega
    have Ic:decide ((n:Int)<=12)=false:=by simp;omega
    have Ie:decide (n<=12)=false:=by simp;omega
    have NF:decide (200 < (n:Int))=true:=by simp;omega
    have NG:decide (200 < n)=true:=by simp;omega
    have Vz:decide ((n:Int)<=202)=false:=by simp;omega
    have VB:decide (n<=202)=false:=by simp;omega
    have HF2:=zC (show True from trivial);clear hlt hkn hb;go_wp2_with fail;go_ret;exact ⟨⟨false,rfl,λh=>(by cases h)⟩,hW⟩
   by_cases hb:n<=12
   ·have k2:decide ((k:Int) < (n:Int))=false:=by simp;omega
    have k2':decide (k < n)=false:=by simp;omega
    have Ic:decide ((n:Int)<=12)=true:=by simp;omega
    have Ie:decide (n<=12)=true:=by simp;omega
    have HF2:=zC (show n<=202 from by omega);clear hlt hkn hb;go_wp2_with fail;go_ret;exact ⟨⟨true,rfl,λ_=>⟨HF2.out,HF.out HF2.out⟩⟩,hW⟩
   by_cases hb:n<=200
   ·have k2:decide ((k:Int) < (n:Int))=false:=by simp;omega
    have k2':decide (k < n)=false:=by simp;omega
    have Ic:decide ((n:Int)<=12)=false:=by simp;omega
    have Ie:decide (n<=12)=false:=by simp;omega
    have NF:decide (200 < (n:Int))=false:=by simp;omega
    have NG:decide (200 < n)=false:=by simp;omega
    have HF2:=zC (show True from trivial);clear hlt hkn hb;go_wp2_with fail;go_ret;exact ⟨⟨false,rfl,λh=>(by cases h)⟩,hW⟩
   by_cases hb:n<=202
   ·have k2:decide ((k:Int) < (n:Int))=false:=by simp;omega
    have k2':decide (k < n)=false:=by simp;omega
    have Ic:decide ((n:Int)<=12)=false:=by simp;omega
    have Ie:decide (n<=12)=false:=by simp;omega
    have NF:decide (200 < (n:Int))=true:=by simp;omega
    have NG:decide (200 < n)=true:=by simp;omega
    have Vz:decide ((n:Int)<=202)=true:=by simp;omega
    have VB:decide (n<=202)=true:=by simp;omega
    have HF2:=zC (show n<=202 from by omega);clear hlt hkn hb;go_wp2_with fail;go_ret;exact ⟨⟨true,rfl,λ_=>⟨HF2.out,HF.out HF2.out⟩⟩,hW⟩
   ·have k2:decide ((k:Int) < (n:Int))=false:=by simp;omega
    have k2':decide (k < n)=false:=by simp;omega
    have Ic:decide ((n:Int)<=12)=false:=by simp;omega
    have Ie:decide (n<=12)=false:=by simp;omega
    have NF:decide (200 < (n:Int))=true:=by simp;omega
    have NG:decide (200 < n)=true:=by simp;omega
    have Vz:decide ((n:Int)<=202)=false:=by simp;omega
    have VB:decide (n<=202)=false:=by simp;omega
    have HF2:=zC (show True from trivial);clear hlt hkn hb;go_wp2_with fail;go_ret;exact ⟨⟨false,rfl,λh=>(by cases h)⟩,hW⟩
namespace K
def zeroS:S:=⟨0,0,0,0,0,none,0,0,[]⟩
def gJ (n a b c:Nat):Bool:=(decide (a < n) && decide (n<=b)) || decide (c < n)
def dK (x:Cs):Bool:=rD x.nd x.n && (!(gJ x.sn 2 4 6) && (!(gJ x.m 4 6 8) && (x.ss.all (λs=>T.few s x.r 8) && T.few zeroS x.r 8)))
end K
theorem aef (x:Cs) (w:World) (hSS:Shifts w x.SA x.sn x.ss) (hRR:bW w x.B x.m x.r) :
  Calls Tryz.prog 17 #[.agg #[.int .i64 x.nd,.slice x.A x.n x.c],.slice x.SA x.sn x.sc,.slice x.B x.m x.d] w λe w'=>e=.returned (.bool (K.dK x))/\Below w.heap.size w w':=by
 have hN:=Net.new w x.nd x.A x.n x.c;have p0:=hN.c0;have p1:=hN.c1;have b0:Below w.heap.size w (w.alloc (.cells #[.int .i64 x.nd,.slice x.A x.n x.c] 24)):=(Below.refl _ _).alloc (zG _) _;have KX:=ais x.nd x.A x.n x.c (w.alloc (.cells #[.int .i64 x.nd,.slice x.A x.n x.c] 24));obtain ⟨f27,Py⟩:=zB (K.rD x.nd x.n);rw [<-Py] at KX;have CO:=zC Py;clear Py;go_enter Tryz.func17,Tryz.ntmps17;go_wp2_with fail;refine KX.mono ?_;rintro e w1 ⟨rfl,b1⟩;have hb1:=bel b0 b1;clear KX b0 b1 p0 p1 hN;cases f27 with
 | false =>
  have HX:=zC (show K.dK x=false by unfold K.dK;rw [<-CO.out];rfl);go_wp2_with fail;go_ret;exact ⟨by rw [HX.out];rfl,hb1⟩
 | true =>
  by_cases h1:x.sn<=2
  ·have Rx:decide (2 < ((x.sn:Nat):Int))=false:=by simp;omega
   have Ry:decide (2 < x.sn)=false:=by simp;omega
   have s3i:decide (6 < ((x.sn:Nat):Int))=false:=by simp;omega
   have s3n:decide (6 < x.sn)=false:=by simp;omega
   by_cases h2:x.m<=4
   ·have zu:decide (4 < ((x.m:Nat):Int))=false:=by simp;omega
    have zx:decide (4 < x.m)=false:=by simp;omega
    have Fa:decide (8 < ((x.m:Nat):Int))=false:=by simp;omega
    have Fb:decide (8 < x.m)=false:=by simp;omega
    have HH:=zC (show K.dK x=(x.ss.all (λs=>T.few s x.r 8) && T.few K.zeroS x.r 8) by
     have e1:K.gJ x.sn 2 4 6=false:=by unfold K.gJ;simp;omega
     have e2:K.gJ x.m 4 6 8=false:=by unfold K.gJ;simp;omega
     unfold K.dK;rw [<-CO.out,e1,e2];rfl)
    have Qb:x.sn<=1000000000:=by omega
    clear h1 h2;go_wp2_with fail;go_loopw [7] (λv7 wr=>∃ k:Nat,v7=.int .i64 k/\k<=x.sn/\Hid (K.dK x=((x.ss.drop k).all (λs=>T.few s x.r 8) && T.few K.zeroS x.r 8))/\Below w.heap.size w wr) (λv7 _=>x.sn - (intOf v7).toNat)
    case atStart=>exact ⟨0,rfl,by omega,by show _=_;rw [List.drop_zero];exact HH.out,hb1⟩
    case round =>
     obtain ⟨k,rfl,hk,hr,hW⟩:=hrel;by_cases hlt:k < x.sn
     ·obtain ⟨ad,s,hA,hg,-,c0,c1,c2,c3,c4,c5⟩:=(hSS.below hW).at_ hlt;rw [hA];have HA:=zC hA;have HD:=zC (Aq (p:=λs=>T.few s x.r 8) hg);have CF:=wI s x.B x.m x.d x.r 8 wr (hRR.below hW) (by omega);obtain ⟨z,hz⟩:=zB (T.few s x.r 8);rw [<-hz] at CF;have HZ:=zC hz;have k0:(0:Int)<=(k:Int):=by omega
      have k1:(k:Int) < (x.sn:Int):=by omega
      clear hz hg hA;go_wp2_with fail;refine CF.mono ?_;rintro e w2 ⟨rfl,b2⟩;have hb2:=bel hW b2;clear CF c0 c1 c2 c3 c4 c5;cases z with
      | false =>
       go_wp2_with fail;go_ret;exact ⟨by rw [hr.out,HD.out,<-HZ.out];rfl,hb2⟩
      | true =>
       go_wp2_with fail;go_roundw
       case rel=>exact ⟨k + 1,by go_num,by omega,by show _=_;rw [hr.out,HD.out,<-HZ.out,Bool.true_and],hb2⟩
       case measure=>simp [intOf];omega
     ·have HE:=zC (show K.dK x=T.few K.zeroS x.r 8 by rw [hr.out,List.drop_eq_nil_of_le (by rw [<-hSS.1.1];omega)];rfl);have CZ:=wI K.zeroS x.B x.m x.d x.r 8 wr (hRR.below hW) (by omega);have k2:decide ((k:Int) < (x.sn:Int))=false:=by simp;omega
      have k2':decide (k < x.sn)=false:=by simp;omega
      clear hlt;go_wp2_with fail;refine CZ.mono ?_;rintro e w2 ⟨rfl,b2⟩;go_wp2_with fail;go_ret;exact ⟨by rw [HE.out];rfl,bel hW b2⟩
   by_cases h2:x.m<=6
   ·have zu:decide (4 < ((x.m:Nat):Int))=true:=by simp;omega
    have zx:decide (4 < x.m)=true:=by simp;omega
    have E8:decide (((x.m:Nat):Int)<=6)=true:=by simp;omega
    have E_:decide (x.m<=6)=true:=by simp;omega
    have HX:=zC (show K.dK x=false by unfold K.dK K.gJ;simp;omega);go_wp2_with fail;go_ret;exact ⟨by rw [HX.out];rfl,hb1⟩
   by_cases h2:x.m<=8
   ·have zu:decide (4 < ((x.m:Nat):Int))=true:=by simp;omega
    have zx:decide (4 < x.m)=true:=by simp;omega
    have E8:decide (((x.m:Nat):Int)<=6)=false:=by simp;omega
    have E_:decide (x.m<=6)=false:=by simp;omega
    have Fa:decide (8 < ((x.m:Nat):Int))=false:=by simp;omega
    have Fb:decide (8 < x.m)=false:=by simp;omega
    have HH:=zC (show K.dK x=(x.ss.all (λs=>T.few s x.r 8) && T.few K.zeroS x.r 8) by
     have e1:K.gJ x.sn 2 4 6=false:=by unfold K.gJ;simp;omega
     have e2:K.gJ x.m 4 6 8=false:=by unfold K.gJ;simp;omega
     unfold K.dK;rw [<-CO.out,e1,e2];rfl)
    have Qb:x.sn<=1000000000:=by omega
    clear h1 h2;go_wp2_with fail;go_loopw [7] (λv7 wr=>∃ k:Nat,v7=.int .i64 k/\k<=x.sn/\Hid (K.dK x=((x.ss.drop k).all (λs=>T.few s x.r 8) && T.few K.zeroS x.r 8))/\Below w.heap.size w wr) (λv7 _=>x.sn - (intOf v7).toNat)
    case atStart=>exact ⟨0,rfl,by omega,by show _=_;rw [List.drop_zero];exact HH.out,hb1⟩
    case round =>
     obtain ⟨k,rfl,hk,hr,hW⟩:=hrel;by_cases hlt:k < x.sn
     ·obtain ⟨ad,s,hA,hg,-,c0,c1,c2,c3,c4,c5⟩:=(hSS.below hW).at_ hlt;rw [hA];have HA:=zC hA;have HD:=zC (Aq (p:=λs=>T.few s x.r 8) hg);have CF:=wI s x.B x.m x.d x.r 8 wr (hRR.below hW) (by omega);obtain ⟨z,hz⟩:=zB (T.few s x.r 8);rw [<-hz] at CF;have HZ:=zC hz;have k0:(0:Int)<=(k:Int):=by omega
      have k1:(k:Int) < (x.sn:Int):=by omega
      clear hz hg hA;go_wp2_with fail;refine CF.mono ?_;rintro e w2 ⟨rfl,b2⟩;have hb2:=bel hW b2;clear CF c0 c1 c2 c3 c4 c5;cases z with
      | false =>
       go_wp2_with fail;go_ret;exact ⟨by rw [hr.out,HD.out,<-HZ.out];rfl,hb2⟩
      | true =>
       go_wp2_with fail;go_roundw
       case rel=>exact ⟨k + 1,by go_num,by omega,by show _=_;rw [hr.out,HD.out,<-HZ.out,Bool.true_and],hb2⟩
       case measure=>simp [intOf];omega
     ·have HE:=zC (show K.dK x=T.few K.zeroS x.r 8 by rw [hr.out,List.drop_eq_nil_of_le (by rw [<-hSS.1.1];omega)];rfl);have CZ:=wI K.zeroS x.B x.m x.d x.r 8 wr (hRR.below hW) (by omega);have k2:decide ((k:Int) < (x.sn:Int))=false:=by simp;omega
      have k2':decide (k < x.sn)=false:=by simp;omega
      clear hlt;go_wp2_with fail;refine CZ.mono ?_;rintro e w2 ⟨rfl,b2⟩;go_wp2_with fail;go_ret;exact ⟨by rw [HE.out];rfl,bel hW b2⟩
   ·have zu:decide (4 < ((x.m:Nat):Int))=true:=by simp;omega
    have zx:decide (4 < x.m)=true:=by simp;omega
    have E8:decide (((x.m:Nat):Int)<=6)=false:=by simp;omega
    have E_:decide (x.m<=6)=false:=by simp;omega
    have Fa:decide (8 < ((x.m:Nat):Int))=true:=by simp;omega
    have Fb:decide (8 < x.m)=true:=by simp;omega
    have HX:=zC (show K.dK x=false by unfold K.dK K.gJ;simp;omega);go_wp2_with fail;go_ret;exact ⟨by rw [HX.out];rfl,hb1⟩
  by_cases h1:x.sn<=4
  ·have Rx:decide (2 < ((x.sn:Nat):Int))=true:=by simp;omega
   have Ry:decide (2 < x.sn)=true:=by simp;omega
   have s2i:decide (((x.sn:Nat):Int)<=4)=true:=by simp;omega
   have s2n:decide (x.sn<=4)=true:=by simp;omega
   have HX:=zC (show K.dK x=false by unfold K.dK K.gJ;simp;omega);go_wp2_with fail;go_ret;exact ⟨by rw [HX.out];rfl,hb1⟩
  by_cases h1:x.sn<=6
  ·have Rx:decide (2 < ((x.sn:Nat):Int))=true:=by simp;omega
   have Ry:decide (2 < x.sn)=true:=by simp;omega
   have s2i:decide (((x.sn:Nat):Int)<=4)=false:=by simp;omega
   have s2n:decide (x.sn<=4)=false:=by simp;omega
   have s3i:decide (6 < ((x.sn:Nat):Int))=false:=by simp;omega
   have s3n:decide (6 < x.sn)=false:=by simp;omega
   by_cases h2:x.m<=4
   ·have zu:decide (4 < ((x.m:Nat):Int))=false:=by simp;omega
    have zx:decide (4 < x.m)=false:=by simp;omega
    have Fa:decide (8 < ((x.m:Nat):Int))=false:=by simp;omega
    have Fb:decide (8 < x.m)=false:=by simp;omega
    have HH:=zC (show K.dK x=(x.ss.all (λs=>T.few s x.r 8) && T.few K.zeroS x.r 8) by
     have e1:K.gJ x.sn 2 4 6=false:=by unfold K.gJ;simp;omega
     have e2:K.gJ x.m 4 6 8=false:=by unfold K.gJ;simp;omega
     unfold K.dK;rw [<-CO.out,e1,e2];rfl)
    have Qb:x.sn<=1000000000:=by omega
    clear h1 h2;go_wp2_with fail;go_loopw [7] (λv7 wr=>∃ k:Nat,v7=.int .i64 k/\k<=x.sn/\Hid (K.dK x=((x.ss.drop k).all (λs=>T.few s x.r 8) && T.few K.zeroS x.r 8))/\Below w.heap.size w wr) (λv7 _=>x.sn - (intOf v7).toNat)
    case atStart=>exact ⟨0,rfl,by omega,by show _=_;rw [List.drop_zero];exact HH.out,hb1⟩
    case round =>
     obtain ⟨k,rfl,hk,hr,hW⟩:=hrel;by_cases hlt:k < x.sn
     ·obtain ⟨ad,s,hA,hg,-,c0,c1,c2,c3,c4,c5⟩:=(hSS.below hW).at_ hlt;rw [hA];have HA:=zC hA;have HD:=zC (Aq (p:=λs=>T.few s x.r 8) hg);have CF:=wI s x.B x.m x.d x.r 8 wr (hRR.below hW) (by omega);obtain ⟨z,hz⟩:=zB (T.few s x.r 8);rw [<-hz] at CF;have HZ:=zC hz;have k0:(0:Int)<=(k:Int):=by omega
      have k1:(k:Int) < (x.sn:Int):=by omega
      clear hz hg hA;go_wp2_with fail;refine CF.mono ?_;rintro e w2 ⟨rfl,b2⟩;have hb2:=bel hW b2;clear CF c0 c1 c2 c3 c4 c5;cases z with
      | false =>
       go_wp2_with fail;go_ret;exact ⟨by rw [hr.out,HD.out,<-HZ.out];rfl,hb2⟩
      | true =>
       go_wp2_with fail;go_roundw
       case rel=>exact ⟨k + 1,by go_num,by omega,by show _=_;rw [hr.out,HD.out,<-HZ.out,Bool.true_and],hb2⟩
       case measure=>simp [intOf];omega
     ·have HE:=zC (show K.dK x=T.few K.zeroS x.r 8 by rw [hr.out,List.drop_eq_nil_of_le (by rw [<-hSS.1.1];omega)];rfl);have CZ:=wI K.zeroS x.B x.m x.d x.r 8 wr (hRR.below hW) (by omega);have k2:decide ((k:Int) < (x.sn:Int))=false:=by simp;omega
      have k2':decide (k < x.sn)=false:=by simp;omega
      clear hlt;go_wp2_with fail;refine CZ.mono ?_;rintro e w2 ⟨rfl,b2⟩;go_wp2_with fail;go_ret;exact ⟨by rw [HE.out];rfl,bel hW b2⟩
   by_cases h2:x.m<=6
   ·have zu:decide (4 < ((x.m:Nat):Int))=true:=by simp;omega
    have zx:decide (4 < x.m)=true:=by simp;omega
    have E8:decide (((x.m:Nat):Int)<=6)=true:=by simp;omega
    have E_:decide (x.m<=6)=true:=by simp;omega
    have HX:=zC (show K.dK x=false by unfold K.dK K.gJ;simp;omega);go_wp2_with fail;go_ret;exact ⟨by rw [HX.out];rfl,hb1⟩
   by_cases h2:x.m<=8
   ·have zu:decide (4 < ((x.m:Nat):Int))=true:=by simp;omega
    have zx:decide (4 < x.m)=true:=by simp;omega
    have E8:decide (((x.m:Nat):Int)<=6)=false:=by simp;omega
    have E_:decide (x.m<=6)=false:=by simp;omega
    have Fa:decide (8 < ((x.m:Nat):Int))=false:=by simp;omega
    have Fb:decide (8 < x.m)=false:=by simp;omega
    have HH:=zC (show K.dK x=(x.ss.all (λs=>T.few s x.r 8) && T.few K.zeroS x.r 8) by
     have e1:K.gJ x.sn 2 4 6=false:=by unfold K.gJ;simp;omega
     have e2:K.gJ x.m 4 6 8=false:=by unfold K.gJ;simp;omega
     unfold K.dK;rw [<-CO.out,e1,e2];rfl)
    have Qb:x.sn<=1000000000:=by omega
    clear h1 h2;go_wp2_with fail;go_loopw [7] (λv7 wr=>∃ k:Nat,v7=.int .i64 k/\k<=x.sn/\Hid (K.dK x=((x.ss.drop k).all (λs=>T.few s x.r 8) && T.few K.zeroS x.r 8))/\Below w.heap.size w wr) (λv7 _=>x.sn - (intOf v7).toNat)
    case atStart=>exact ⟨0,rfl,by omega,by show _=_;rw [List.drop_zero];exact HH.out,hb1⟩
    case round =>
     obtain ⟨k,rfl,hk,hr,hW⟩:=hrel;by_cases hlt:k < x.sn
     ·obtain ⟨ad,s,hA,hg,-,c0,c1,c2,c3,c4,c5⟩:=(hSS.below hW).at_ hlt;rw [hA];have HA:=zC hA;have HD:=zC (Aq (p:=λs=>T.few s x.r 8) hg);have CF:=wI s x.B x.m x.d x.r 8 wr (hRR.below hW) (by omega);obtain ⟨z,hz⟩:=zB (T.few s x.r 8);rw [<-hz] at CF;have HZ:=zC hz;have k0:(0:Int)<=(k:Int):=by omega
      have k1:(k:Int) < (x.sn:Int):=by omega
      clear hz hg hA;go_wp2_with fail;refine CF.mono ?_;rintro e w2 ⟨rfl,b2⟩;have hb2:=bel hW b2;clear CF c0 c1 c2 c3 c4 c5;cases z with
      | false =>
       go_wp2_with fail;go_ret;exact ⟨by rw [hr.out,HD.out,<-HZ.out];rfl,hb2⟩
      | true =>
       go_wp2_with fail;go_roundw
       case rel=>exact ⟨k + 1,by go_num,by omega,by show _=_;rw [hr.out,HD.out,<-HZ.out,Bool.true_and],hb2⟩
       case measure=>simp [intOf];omega
     ·have HE:=zC (show K.dK x=T.few K.zeroS x.r 8 by rw [hr.out,List.drop_eq_nil_of_le (by rw [<-hSS.1.1];omega)];rfl);have CZ:=wI K.zeroS x.B x.m x.d x.r 8 wr (hRR.below hW) (by omega);have k2:decide ((k:Int) < (x.sn:Int))=false:=by simp;omega
      have k2':decide (k < x.sn)=false:=by simp;omega
      clear hlt;go_wp2_with fail;refine CZ.mono ?_;rintro e w2 ⟨rfl,b2⟩;go_wp2_with fail;go_ret;exact ⟨by rw [HE.out];rfl,bel hW b2⟩
   ·have zu:decide (4 < ((x.m:Nat):Int))=true:=by simp;omega
    have zx:decide (4 < x.m)=true:=by simp;omega
    have E8:decide (((x.m:Nat):Int)<=6)=false:=by simp;omega
    have E_:decide (x.m<=6)=false:=by simp;omega
    have Fa:decide (8 < ((x.m:Nat):Int))=true:=by simp;omega
    have Fb:decide (8 < x.m)=true:=by simp;omega
    have HX:=zC (show K.dK x=false by unfold K.dK K.gJ;simp;omega);go_wp2_with fail;go_ret;exact ⟨by rw [HX.out];rfl,hb1⟩
  ·have Rx:decide (2 < ((x.sn:Nat):Int))=true:=by simp;omega
   have Ry:decide (2 < x.sn)=true:=by simp;omega
   have s2i:decide (((x.sn:Nat):Int)<=4)=false:=by simp;omega
   have s2n:decide (x.sn<=4)=false:=by simp;omega
   have s3i:decide (6 < ((x.sn:Nat):Int))=true:=by simp;omega
   have s3n:decide (6 < x.sn)=true:=by simp;omega
   have HX:=zC (show K.dK x=false by unfold K.dK K.gJ;simp;omega);go_wp2_with fail;go_ret;exact ⟨by rw [HX.out];rfl,hb1⟩
theorem BZ (A B:Option Addr) (n m c d:Nat) (la lb:List Int) (w:World) (hla:Ints w A n la) (hlb:Ints w B m lb) (hn:n<=1000000000) (hm:m<=1000000000) :
  Calls Tryz.prog 50 #[.slice A n c,.slice B m d] w λe w'=>e=.returned (.bool (decide (la=lb)))/\Below w.heap.size w w':=by
 by_cases hnm:n=m
 ·obtain rfl:=hnm;go_enter Tryz.func50,Tryz.ntmps50;go_wp2_with fail;go_loopw [5] (λvi wr=>∃ k:Nat,vi=.int .i64 k/\k<=n/\Hid (la.take k=lb.take k)/\Below w.heap.size w wr) (λvi _=>n - (intOf vi).toNat)
  case atStart=>exact ⟨0,rfl,by omega,rfl,Below.refl _ _⟩
  case round =>
   obtain ⟨k,rfl,hk,hr,hb⟩:=hrel;by_cases hlt:k < n
   ·obtain ⟨ad,o,rfl,hg,c0⟩:=(hla.below hb).at_ hlt;obtain ⟨jL,o2,rfl,hg2,U_⟩:=(hlb.below hb).at_ hlt;have HN:=zC (RP hg hg2 hr.out);clear hg hg2;by_cases ho:o=o2
    ·have HX:=zC (HN.out.2 ho);subst ho;go_wp2_with fail;go_quiet (fail);go_wp2_with fail;go_roundw
     case rel=>exact ⟨k + 1,by go_num,by omega,HX.out,below_drewN hb _⟩
     case measure=>simp [intOf];omega
    ·have HX:=zC (λh=>ho (HN.out.1 h));have q2:(o == o2)=false:=by simpa using ho
     go_wp2_with fail;go_quiet (fail);go_wp2_with fail;go_ret;exact ⟨ay (Eq.symm (zI (λh=>HX.out (by rw [h])))),below_drewN hb _⟩
   ·have HX:=zC (show la=lb by
     have h:=hr.out;rw [List.take_of_length_le (by rw [<-hla.1];omega),List.take_of_length_le (by rw [<-hlb.1];omega)] at h;exact h)
    go_wp2_with fail;go_ret;exact ⟨ay (Eq.symm (zH HX.out)),hb⟩
 ·have HX:=zC (show ¬ la=lb from λh=>hnm (by rw [hla.1,hlb.1,h]));have q1:(((n:Nat):Int) != ((m:Nat):Int))=true:=by simp;omega
  go_enter Tryz.func50,Tryz.ntmps50;go_wp2_with fail;go_ret;exact ⟨ay (Eq.symm (zI HX.out)),Below.refl _ _⟩
theorem ajJ {la lb:List TV} {k:Nat} {x y:TV} (hx:la[k]? = some x) (hy:lb[k]? = some y) (h:(la.take k).map TV.pr=(lb.take k).map TV.pr):(la.take (k + 1)).map TV.pr=(lb.take (k + 1)).map TV.pr ↔ x.pr=y.pr:=by
 obtain ⟨h1,e1⟩:=zE.1 hx;obtain ⟨h2,e2⟩:=zE.1 hy;rw [List.take_succ_eq_append_getElem h1,List.take_succ_eq_append_getElem h2,e1,e2,List.map_append,List.map_append,h];simp
theorem TV.ah6 {x y:TV}:x.pr=y.pr ↔ x.sh=y.sh/\x.t.end_=y.t.end_/\x.t.stops=y.t.stops/\x.t.times=y.t.times:=by
 constructor
 ·intro h;have h1:x.sh=y.sh:=congrArg Prod.fst h;have h2:x.t=y.t:=congrArg Prod.snd h;exact ⟨h1,by rw [h2],by rw [h2],by rw [h2]⟩
 ·rintro ⟨h1,h2,h3,h4⟩;obtain ⟨sh,A,n,c,A',n',c',⟨st,ti,en⟩⟩:=x;obtain ⟨sh',B,m,d,B',m',d',⟨st',ti',en'⟩⟩:=y;simp at h1 h2 h3 h4;subst h1 h2 h3 h4;rfl
def Says (P:Prop) (e:Ending):Prop:=∃ z,e=.returned (.bool z)/\(z=true ↔ P)
theorem abB {P:Prop} (h:¬ P):Says P (.returned (.bool false)):=⟨false,rfl,λh=>(by cases h),λh2=>absurd h2 h⟩
theorem ai' {P:Prop} (h:P):Says P (.returned (.bool true)):=⟨true,rfl,λ_=>h,λ_=>rfl⟩
theorem ai6 (A B:Option Addr) (n m c d:Nat) (la lb:List TV) (w:World) (hla:dY w A n la) (hlb:dY w B m lb) (hn:n<=1000000000) (hm:m<=1000000000) (hsa:∀ y ∈ la,y.n<=1000000000/\y.n'<=1000000000) (hsb:∀ y ∈ lb,y.n<=1000000000/\y.n'<=1000000000) :
  Calls Tryz.prog 24 #[.slice A n c,.slice B m d] w λe w'=>Says (la.map TV.pr=lb.map TV.pr) e/\Below w.heap.size w w':=by
 by_cases hnm:n=m
 ·obtain rfl:=hnm;go_enter Tryz.func24,Tryz.ntmps24;go_wp2_with fail;go_loopw [5] (λvi wr=>∃ k:Nat,vi=.int .i64 k/\k<=n/\Hid ((la.take k).map TV.pr=(lb.take k).map TV.pr)/\Below w.heap.size w wr) (λvi _=>n - (intOf vi).toNat)
  case atStart=>exact ⟨0,rfl,by omega,rfl,Below.refl _ _⟩
  case round =>
   obtain ⟨k,rfl,hk,hr,hb⟩:=hrel;by_cases hlt:k < n
   ·obtain ⟨ad,x,rfl,hg,⟨hx1,hx2⟩,a0,a1,a2,a3⟩:=(hla.below hb).at_ hlt;obtain ⟨jL,y,rfl,hg2,⟨hy1,hy2⟩,c0,c1,c2,c3⟩:=(hlb.below hb).at_ hlt;have HN:=zC (ajJ hg hg2 hr.out);obtain ⟨nx1,nx2⟩:=hsa x (zD hg);obtain ⟨ny1,ny2⟩:=hsb y (zD hg2);have C1:∀ i:ah wr,Calls Tryz.prog 50 #[.slice x.A x.n x.c,.slice y.A y.n y.c] i.val λe w'=>e=.returned (.bool (decide (x.t.stops=y.t.stops)))/\Below i.val.heap.size i.val w':=λi=>BZ x.A y.A x.n y.n x.c y.c x.t.stops y.t.stops i.val (hx1.below i.property) (hy1.below i.property) nx1 ny1;have C2:∀ i:ah wr,Calls Tryz.prog 50 #[.slice x.A' x.n' x.c',.slice y.A' y.n' y.c'] i.val λe w'=>e=.returned (.bool (decide (x.t.times=y.t.times)))/\Below i.val.heap.size i.val w':=λi=>BZ x.A' y.A' x.n' y.n' x.c' y.c' x.t.times y.t.times i.val (hx2.below i.property) (hy2.below i.property) nx2 ny2;have p0:=ah.cell a0;have p1:=ah.cell a1;have p2:=ah.cell a2;have p3:=ah.cell a3;have q0:=ah.cell c0;have q1:=ah.cell c1;have q2:=ah.cell c2;have q3:=ah.cell c3;obtain ⟨z1,hz1⟩:=zB ((x.sh != y.sh));obtain ⟨z2,hz2⟩:=zB ((x.t.end_ != y.t.end_));obtain ⟨z3,hz3⟩:=zB (decide (x.t.stops=y.t.stops));obtain ⟨z4,lT⟩:=zB (decide (x.t.times=y.t.times));have kD:=zC (show x.pr=y.pr ↔ (z1=false/\z2=false/\z3=true/\z4=true) by rw [TV.ah6,hz1,hz2,hz3,lT];simp);rw [<-hz3] at C1;rw [<-lT] at C2;have e1:=hz1.symm;have e2:=hz2.symm;clear hz1 hz2 hz3 lT a0 a1 a2 a3 c0 c1 c2 c3 hg hg2 hx1 hx2 hy1 hy2;have k0:(0:Int)<=(k:Int):=by omega
    have k1:(k:Int) < (n:Int):=by omega
    have HB:=zC hb;go_upto_region 6 with fail;have h5:z1=true\/(z1=false/\z2=true)\/(z1=false/\z2=false/\z3=false)\/(z1=false/\z2=false/\z3=true/\z4=false)\/(z1=false/\z2=false/\z3=true/\z4=true):=by
     cases z1 <;> cases z2 <;> cases z3 <;> cases z4 <;> simp
    rcases h5 with rfl | ⟨rfl,rfl⟩ | ⟨rfl,rfl,rfl⟩ | ⟨rfl,rfl,rfl,rfl⟩ | ⟨rfl,rfl,rfl,rfl⟩
    all_goals
     refine dU (by kernel_rfl) (by kernel_rfl) ?_;repeat (go_big_quiet_step ((first | (go_at_call_of 50 (TV.A x);exact ah.calls (C1 _)) | (go_at_call_of 50 (TV.A' x);exact ah.calls (C2 _)))))
     refine wpQuiet_nil ?_;rintro w4 ⟨⟨w4,b4⟩,rfl⟩;have hb4:=bel HB.out b4;clear C1 C2 p0 p1 p2 p3 q0 q1 q2 q3;go_wp2_with fail;first
      | (go_ret
         exact ⟨abB (λh=>absurd (HN.out.1 (by rw [List.map_take,List.map_take,h])) (by rw [kD.out];simp)),hb4⟩)
      | (go_roundw
         case rel=>exact ⟨k + 1,by go_num,by omega,HN.out.2 (kD.out.2 ⟨rfl,rfl,rfl,rfl⟩),hb4⟩
         case measure=>(simp [intOf];omega))
   ·have HX:=zC (show la.map TV.pr=lb.map TV.pr by
     have h:=hr.out;rw [List.take_of_length_le (by rw [<-hla.1.1];omega),List.take_of_length_le (by rw [<-hlb.1.1];omega)] at h;exact h)
    have k2:decide ((k:Int) < (n:Int))=false:=by simp;omega
    have k2':decide (k < n)=false:=by simp;omega
    clear hlt;go_wp2_with fail;go_ret;exact ⟨ai' HX.out,hb⟩
 ·have HX:=zC (show ¬ la.map TV.pr=lb.map TV.pr from λh=>hnm (by rw [hla.1.1,hlb.1.1,<-List.length_map (f:=TV.pr),h,List.length_map]));have q1:(((n:Nat):Int) != ((m:Nat):Int))=true:=by simp;omega
  go_enter Tryz.func24,Tryz.ntmps24;go_wp2_with fail;go_ret;exact ⟨abB HX.out,Below.refl _ _⟩
namespace K
theorem VM {n a b c:Nat} (h:gJ n a b c=false):n<=c/\(n<=b->n<=a):=by
 unfold gJ at h;simp at h;omega
theorem VL {x:Cs} (h:dK x=true) (hm:x.m=x.r.length):x.n<=40/\x.sn<=6/\x.m<=8/\(∀ s ∈ x.ss,s.n<=6)/\(∀ q ∈ x.r,q.n<=10)/\(x.sn<=4->x.sn<=2)/\(x.m<=6->x.m<=4):=by
 simp only [dK,rD,Bool.and_eq_true,Bool.not_eq_true',decide_eq_true_eq] at h;obtain ⟨⟨-,h1⟩,h2,h3,h4,h5⟩:=h;obtain ⟨g1,g2⟩:=VM h2;obtain ⟨g3,g4⟩:=VM h3;refine ⟨h1,g1,g3,λs hs=>?_,λq hq=>?_,g2,g4⟩
 ·have:=List.all_eq_true.1 h4 s hs;simp only [T.few,Bool.and_eq_true,decide_eq_true_eq] at this;exact this.2.1
 ·simp only [T.few,Bool.and_eq_true,Bool.not_eq_true'] at h5;have:=List.any_eq_false.1 h5.1 q (by rw [List.take_of_length_le (by omega)];exact hq);simpa using this
theorem aee {w:World} {x:Cs} (h:dK x=true) (hN:jf w x.A x.n x.l) (hS:Shifts w x.SA x.sn x.ss) (hQ:bW w x.B x.m x.r):bF w x:=by
 obtain ⟨h1,h2,h3,h4,h5,-⟩:=VL h hQ.1;exact ⟨hN,hS,hQ,by omega,λs hs=>by have:=h4 s hs;omega,by omega,by omega,λq hq=>by have:=h5 q hq;omega⟩
section
variable {nd : Int} {l : List Ro} {ss : List S} {r : List Q} {ts : List (Int × Tr)}
theorem adN (h:checks nd l ss r ts=0):ts.length<=4/\∀ t ∈ ts,t.2.stops.length<=6/\t.2.times.length<=6:=by
 unfold checks at h;split at h
 case isFalse h1=>exact absurd h h1
 rename_i h1
 obtain ⟨-,hs4,-,-,Yt⟩:=gQ h1;obtain ⟨g1,g2,-,-⟩:=Vj ts _ _ h;refine ⟨?_,λt ht=>?_⟩
 ·have hn:(ts.map λt=>t.1).Nodup:=by
   unfold List.Nodup;rw [List.pairwise_map];exact g2.imp λh=>Int.ne_of_lt h.1
  have:=EY (b:=(List.range ss.length).map λ(i:Nat)=>(i:Int)) hn λy hy=>by
   obtain ⟨t,ht,rfl⟩:=List.mem_map.1 hy;obtain ⟨-,hg⟩:=g1 t ht;obtain ⟨x,hx,-⟩:=hg.sh;have:=(zE.1 hx).1;have:=hg.pos;exact List.mem_map.2 ⟨t.1.toNat,by rw [List.mem_range];omega,by omega⟩
  rw [List.length_map,List.length_map,List.length_range] at this;omega
 ·obtain ⟨-,hg⟩:=g1 t ht;obtain ⟨x,-,hc⟩:=hg.sh;obtain ⟨c1,c2,c3⟩:=Nz hc;have:=EY (b:=(List.range r.length).map λ(i:Nat)=>(i:Int)) c3 λy hy=>List.mem_map.2 ⟨y.toNat,by have:=c2 y hy;rw [List.mem_range];omega,by have:=c2 y hy;omega⟩;rw [List.length_map,List.length_range] at this;refine ⟨by omega,?_⟩;unfold check at hc;simp only [Bool.and_eq_true,decide_eq_true_eq] at hc;obtain ⟨-,-,-,e⟩:=uZ c1;rw [<-hc.2.1,e];have:=K.Zj nd l x r t.2.stops [] x.ag x.start;show (all nd l x r t.2.stops).times.length<=6;unfold all;omega
end
end K
theorem aei {w:World} {A:Option Addr} {n:Nat} {ts:List TV} (hT:dY w A n ts) (h:ts.length<=4/\∀ t ∈ ts.map TV.pr,t.2.stops.length<=6/\t.2.times.length<=6):sQ n ts:=by
 refine ⟨by have:=hT.1.1;omega,λy hy=>?_⟩;have h1:=h.2 y.pr (List.mem_map_of_mem hy);have h2:=(hT.2 y hy).1.1;have h3:=(hT.2 y hy).2.1;have e1:y.pr.2.stops=y.t.stops:=rfl;have e2:y.pr.2.times=y.t.times:=rfl;rw [e1,e2] at h1;omega
def K.dD:List Ro:=[⟨0,1,10,-1⟩,⟨1,0,10,-1⟩]
def K.bQ (k:Int):Q:=⟨1,0,k,5,1,1,none,0,0,[]⟩
theorem xw:∀ l:List Q,uP l=l.flatMap Q.cells
 | []=>rfl
 | q :: l=>by rw [List.flatMap_cons,<-xw l];rfl
namespace K
section
variable {nd : Int} {l : List Ro} {ss ss' : List S} {r r' : List Q}
theorem aan (h1:aG nd l=0) (h2:ss.length<=4) (h3:∀ s ∈ ss,T.check s=0/\s.ag < nd) (h4:∀ q ∈ r,T.right q=true/\q.node < nd) (h5:r.length<=6):aH nd l ss r=0:=by
 have a1:ss.any (iO nd)=false:=by
  rw [List.any_eq_false];intro s hs;obtain ⟨b1,b2⟩:=h3 s hs;simp [iO,b1];omega
 have a2:r.any (iw nd)=false:=by
  rw [List.any_eq_false];intro q hq;obtain ⟨b1,b2⟩:=h4 q hq;simp [iw,b1];omega
 unfold aH;rw [h1,zH h2,a1,a2,if_pos (by decide),if_neg (by omega)]
theorem FB (h:aH nd l ss r=0) (hs:r'.Sublist r):aH nd l ss r'=0:=by
 obtain ⟨h1,h2,h3,h4,h5⟩:=gQ h;exact aan h1 h2 h3 (λq hq=>h4 q (hs.subset hq)) (Nat.le_trans hs.length_le h5)
theorem ahY (h:aH nd l ss r=0):(plan nd l ss r).2=0\/(plan nd l ss r).2=4:=by
 rcases Q9 h with ⟨g,-⟩ | ⟨d,-,g⟩
 ·rw [g];exact .inr rfl
 ·rw [g];exact .inl rfl
end
end K
namespace K
structure An where
 acc:Bool
 dG:List (Int × Tr)
 blk:List Int
 proof:List (Int × List Int × List Lb)
def An.zero:An:=⟨false,[],[],[]⟩
def dZ (n:Int):Int->List Int->Bool
 | _,[]=>true
 | p,i :: v=>!decide (i<=p) && (!decide (n<=i) && dZ n i v)
section
variable {nd : Int} {l : List Ro} {ss ss' : List S} {r r' : List Q} {x : Q}
theorem JZ (h:r'.map Q.bare=r.map Q.bare) (g:ss'.map S.bare=ss.map S.bare):plan nd l ss' r'=plan nd l ss r:=by rw [<-Q8 nd l r' ss',h,g,Q8]
theorem Rf (h:r'.map Q.bare=r.map Q.bare) (g:ss'.map S.bare=ss.map S.bare):refute nd l ss' r'=refute nd l ss r:=by rw [<-aaI nd l r' ss',h,g,aaI]
theorem Vs (h:r'.map Q.bare=r.map Q.bare) (g:ss'.map S.bare=ss.map S.bare) (ts:List (Int × Tr)):checks nd l ss' r' ts=checks nd l ss r ts:=by rw [<-Vp nd l r' ss',h,g,Vp]
theorem aaQ (h:r'.map Q.bare=r.map Q.bare) (g:ss'.map S.bare=ss.map S.bare) (bl:List (Int × List Int × List Lb)):refutes nd l ss' r' bl=refutes nd l ss r bl:=by rw [<-aaM nd l r' ss',h,g,aaM]
theorem aaV {i:Nat} {q:Q} (h:r[i]? = some q):req r (i:Int)=q:=by unfold req;rw [Int.toNat_natCast,h];rfl
theorem Dx {n:Int}:∀ {v:List Int} {p:Int},dZ n p v=true ↔ v.Pairwise (· < ·)/\∀ i ∈ v,p < i/\i < n
 | [],p=>⟨λ_=>⟨List.Pairwise.nil,λi h=>by cases h⟩,λ_=>rfl⟩
 | j :: v,p=>by
  rw [dZ,Bool.and_eq_true,Bool.and_eq_true,Bool.not_eq_true',Bool.not_eq_true',decide_eq_false_iff_not,decide_eq_false_iff_not,Dx,List.pairwise_cons];constructor
  ·rintro ⟨h1,h2,h3,h4⟩;refine ⟨⟨λi hi=>(h4 i hi).1,h3⟩,λi hi=>?_⟩;rcases List.mem_cons.1 hi with rfl | hi
   ·omega
   ·have:=h4 i hi;omega
  ·rintro ⟨⟨h1,h2⟩,h3⟩;have hj:=h3 j (List.mem_cons_self ..);exact ⟨by omega,by omega,h2,λi hi=>⟨h1 i hi,(h3 i (List.mem_cons_of_mem _ hi)).2⟩⟩
theorem ahS:∀ {v:List Int},v.Pairwise (· < ·)->(∀ i ∈ v,0<=i/\i < (r.length:Int))->(v.map (req r)).Sublist r:=by
 have key:∀ (r:List Q) (v:List Int),v.Pairwise (· < ·)->(∀ i ∈ v,0<=i/\i < (r.length:Int))->(v.map (req r)).Sublist r:=by
  intro r;induction r with
  | nil =>
   intro v _ hv;cases v with
   | nil=>exact List.Sublist.refl _
   | cons i v=>have:=hv i (List.mem_cons_self ..);simp at this;omega
  | cons q r ih =>
   intro v hp hv;have shift:∀ (u:List Int),(∀ i ∈ u,1<=i)->u.map (req (q :: r))=(u.map (· - 1)).map (req r):=by
    intro u hu;rw [List.map_map];refine List.map_congr_left λi hi=>?_;have:=hu i hi;show req (q :: r) i=req r (i - 1);unfold req;rw [show i.toNat=(i - 1).toNat + 1 by omega,List.getElem?_cons_succ]
   have pw:∀ (u:List Int),u.Pairwise (· < ·)->(u.map (· - 1)).Pairwise (· < ·):=λu hu=>List.pairwise_map.2 (hu.imp (by intro a b h;omega));cases v with
   | nil=>exact List.nil_sublist _
   | cons i v =>
    obtain ⟨h1,h2⟩:=List.pairwise_cons.1 hp;have hi:=hv i (List.mem_cons_self ..);by_cases e:i=0
    ·subst e;rw [List.map_cons,shift v (λj hj=>by have:=h1 j hj;omega)];refine List.Sublist.cons_cons _ (ih _ (pw v h2) λj hj=>?_);obtain ⟨k,hk,rfl⟩:=List.mem_map.1 hj;have:=h1 k hk;have:=hv k (List.mem_cons_of_mem _ hk);rw [List.length_cons] at this;omega
    ·rw [shift (i :: v) (λj hj=>by
      rcases List.mem_cons.1 hj with rfl | hj
      ·omega
      ·have:=h1 j hj;omega)]
     refine List.Sublist.cons _ (ih _ (pw _ hp) λj hj=>?_);obtain ⟨k,hk,rfl⟩:=List.mem_map.1 hj;have h9:=hv k hk;rw [List.length_cons] at h9;rcases List.mem_cons.1 hk with rfl | hk
     ·omega
     ·have:=h1 k hk;omega
 exact λ{v} h1 h2=>key r v h1 h2
end
end K
end Go.Proofs.YtippdjmpkafifaaGreat
