import Derived.Test.YtippdjmpkafifaaGreatCV12
import Derived.Test.YtippdjmpkafifaaGreatCV11
import Derived.Test.YtippdjmpkafifaaGreatCV10
import Derived.Test.YtippdjmpkafifaaGreatCV7
namespace Go.Proofs.YtippdjmpkafifaaGreat
open Go.RowKit
namespace A
theorem combos_few_all:∀ b:Fin 7,∀ n:Fin 7,∀ f:Fin 8,(combos b.val n.val f.val).length≤64:=by decide +kernel
theorem combos_few {b n f:Nat} (hb:b≤6) (hn:n≤6) (hf:f≤7):(combos b n f).length≤64:=combos_few_all ⟨b,by omega⟩ ⟨n,by omega⟩ ⟨f,by omega⟩
theorem range_snoc (f k:Nat):List.range' f (k + 1)=List.range' f k ++ [f + k]:=by rw [List.range'_concat];simp
end A
def NewL (B:Nat) (L:List Sh):Prop:=∀ s ∈ L,0 < s.n→∀ ad,s.A=some ad→B≤ad.block
def RetSets (w w':World) (L:List (List Int)) (e:Ending):Prop:=(∃ E m c l,e=.returned (.slice E m c)∧Shs w' E m l∧m≤c∧l.map Sh.l=L∧(∀ ad,E=some ad→w.heap.size≤ad.block)∧NewL w.heap.size l)∧Below w.heap.size w w'
def RowOk (w:World) (v:Value) (L:List Sh):Prop:=∀ s ∈ L,(Ints w s.A s.n s.l∧s.n≤s.c∧(s.A=none→s.n=0∧s.c=0))∧(0 < s.n→∀ ad,s.A=some ad→v.ownBlock ≠ some ad.block)
theorem RowOk.below {w w':World} {v:Value} {L:List Sh} (h:RowOk w v L) (hb:Below w.heap.size w w'):RowOk w' v L:=fun s hs=>⟨⟨(h s hs).1.1.below hb,(h s hs).1.2⟩,(h s hs).2⟩
theorem own_shs {w:World} {base n:Nat} {v:Value} {L:List Sh} (h:w.ownsRow base 48 1 v n (L.map Sh.val)) (hn:n=L.length) (ho:RowOk w v L):∃ E c,v=.slice E n c∧Shs w E n L∧n≤c∧∀ ad,E=some ad→base≤ad.block:=by
 have hnw:∀ E c,v=.slice E n c→∀ ad,E=some ad→base≤ad.block:=fun E c e ad e2=>by
  obtain ⟨-,-,-,-,h3⟩:=own_form h
  exact (h3 ad.block (by rw [e,e2];rfl)).1
 rcases Nat.eq_zero_or_pos n with h0 | h0
 ·obtain ⟨A,c,e,hR,-⟩:=own_form h
  have hc:n≤c:=by omega
  have hL:L=[]:=List.length_eq_zero_iff.1 (by omega)
  exact ⟨A,c,e,⟨⟨hn,by rw [hL];simp [h0],fun h=>absurd h (by omega)⟩,fun s hs=>(ho s hs).1⟩,hc,hnw _ _ e⟩
 ·obtain ⟨g,cap,cur,e,-,hc,hr⟩:=row_own h h0
  exact ⟨_,cap,e,hr.shs fun s hs=>(ho s hs).1,hc,hnw _ _ e⟩
theorem app_shs {ops:Array Oper} {rest:List Oper} {o:Oper} {a:Act} {Q:Exit→Act→World→Prop} {w:World} (hgd:o.guard=none) (s x:Operand)
  (ho:o.op=.call { callee:=.builtin .append,args:=#[s,x],argTypes:=#[97,97] })
  (base:Nat) (v:Value) (n:Nat) (L:List Sh) (hs:a.eval s=v) (hown:w.ownsRow base 48 1 v n (L.map Sh.val)) (g:Nat) (y:Sh) (hx:a.eval x=.slice (some ⟨g,0,none⟩) 1 1)
  (hg:w.heap[g]? = some (.cells #[.slice y.A y.n y.c] 48 (0,0))) (hn:n≤1000000) (hbase:base≤w.heap.size)
  (h:∀ v' w',w'.ownsRow base 48 1 v' (n + 1) ((L ++ [y]).map Sh.val)→w.grownBy w' v.ownBlock→(v'.ownBlock=v.ownBlock∨v'.ownBlock=some w.heap.size)→wpList Tryz.prog ops Q rest (a.put o.dst v') w') :
  wpList Tryz.prog ops Q (o :: rest) a w:=by
 obtain ⟨i0,hi,hz0,hz1,hz2⟩:=info_parts Tryz.info48
 refine wpList_append_own_at w hgd s x 97 ho base 48 i0 (.slice none 0 0) 1 24 Tryz.underlying97 hi hz0 hz1 hz2 rfl (by decide) v n (L.map Sh.val) hs hown ⟨g,0,none⟩ 1 1 [y.val] hx rfl ?_ ?_ ?_ ?_ hbase ?_
 ·intro j u hu
  rw [add_zero_block]
  exact blk_cell hg j u (by simpa [Sh.val] using hu)
 ·intro u hu
  simp at hu
  subst hu;rfl
 ·simp only [maxLen];omega
 ·omega
 ·intro v' w' h2 h3 _ h5
  exact h v' w' (by rw [List.map_append];exact h2) h3 h5
theorem RowOk.grow {w w':World} {v v':Value} {L:List Sh} (h:RowOk w v L) (hg:w.grownBy w' v.ownBlock) (ha:v'.ownBlock=v.ownBlock∨v'.ownBlock=some w.heap.size):RowOk w' v' L:=fun s hs=>by
 obtain ⟨⟨h1,h2⟩,h3⟩:=h s hs
 refine ⟨⟨h1.grow hg fun h0 ad e e2=>h3 h0 ad e e2.symm,h2⟩,fun h0 ad e e2=>?_⟩
 rcases ha with e3 | e3
 ·rw [e3] at e2;exact h3 h0 ad e e2
 ·rw [e3] at e2
  injection e2 with e2
  have:=h1.lt_of h0 e
  omega
theorem RowOk.snoc {w:World} {v:Value} {L:List Sh} (h:RowOk w v L) {y:Sh} (h1:Ints w y.A y.n y.l∧y.n≤y.c∧(y.A=none→y.n=0∧y.c=0)) (h2:0 < y.n→∀ ad,y.A=some ad→v.ownBlock ≠ some ad.block):RowOk w v (L ++ [y]):=fun s hs=>by
 rcases List.mem_append.1 hs with hs | hs
 ·exact h s hs
 ·rw [List.mem_singleton] at hs
  rw [hs]
  exact ⟨h1,h2⟩
theorem Shs.grown {w w':World} {E:Option Addr} {n:Nat} {l:List Sh} {r:Option Nat} (h:Shs w E n l) (hg:w.grownBy w' r) (hE:0 < n→∀ ad,E=some ad→some ad.block ≠ r) (hs:∀ s ∈ l,0 < s.n→∀ ad,s.A=some ad→some ad.block ≠ r):Shs w' E n l:=by
 refine ⟨⟨h.1.1,h.1.2.1,fun h0=>?_⟩,fun s hm=>⟨(h.2 s hm).1.grow hg (hs s hm),(h.2 s hm).2⟩⟩
 obtain ⟨ad,e,hc⟩:=h.1.2.2 h0
 refine ⟨ad,e,fun j u hu=>?_⟩
 have c:=hc j u hu
 exact (World.cell?_of_block (hg.block _ (cell_lt c) (by rw [add_block];exact hE h0 ad e))).trans c
theorem NewL.mono {B C:Nat} {L:List Sh} (h:NewL B L) (hc:C≤B):NewL C L:=fun s hs h0 ad e=>Nat.le_trans hc (h s hs h0 ad e)
theorem NewL.snoc {B:Nat} {L:List Sh} {y:Sh} (h:NewL B L) (hy:0 < y.n→∀ ad,y.A=some ad→B≤ad.block):NewL B (L ++ [y]):=fun s hs=>by
 rcases List.mem_append.1 hs with hs | hs
 ·exact h s hs
 ·rw [List.mem_singleton] at hs
  rw [hs];exact hy
set_option maxRecDepth 100000 in
theorem wp_pre {ops:Array Oper} {rest:List Oper} {o:Oper} {a:Act} {w w2:World} {Q:Exit→Act→World→Prop} (hgd:o.guard=none) (s x:Operand)
  (ho:o.op=.call { callee:=.builtin .append,args:=#[s,x],argTypes:=#[48,48] })
  (g:Nat) (i:Int) (hs:a.eval s=.slice (some ⟨g,0,none⟩) 1 1) (hg:w.heap[g]? = some (.cells #[.int .i64 i] 3 (0,0))) (hb2:Below w2.heap.size w2 w) (hbg:w2.heap.size≤g)
  {A:Option Addr} {m c:Nat} {l:List Int} (hx:a.eval x=.slice A m c) (hI:Ints w2 A m l) (hm:m≤1000000)
  (h:∀ B c w',Ints w' (some B) (m + 1) (i :: l)→m + 1≤c→Below w2.heap.size w2 w'→w2.heap.size≤B.block→wpList Tryz.prog ops Q rest (a.put o.dst (.slice (some B) (m + 1) c)) w') :
  wpList Tryz.prog ops Q (o :: rest) a w:=by
 obtain ⟨i0,hi,hz0,hz1,hz2⟩:=info_parts Tryz.info3
 have hown:w.ownsRow w2.heap.size 3 1 (.slice (some ⟨g,0,none⟩) 1 1) 1 [.int .i64 i]:=⟨rfl,.inr ⟨g,1,_,rfl,hbg,hg,Nat.le_refl _,by simp [maxLen],rfl,rfl⟩⟩
 refine wp_append_rd hgd s x 48 ho w2.heap.size 3 i0 (.int .i64 0) 1 8 Tryz.underlying48 hi hz0 hz1 hz2 rfl (by decide) _ 1 [.int .i64 i] hs hown A m c (intCells l) hx (hI.below hb2).2 (fun u hu=>?_) (by simp only [maxLen];omega) (by omega) hb2.size fun v' w' h2 h3 h4=>?_
 ·obtain ⟨z,-,rfl⟩:=List.mem_map.1 hu
  rfl
 ·have e:1 + m=m + 1:=by omega
  rw [e] at h2
  have h2':w'.ownsRow w2.heap.size 3 1 v' (m + 1) (intCells (i :: l)):=h2
  obtain ⟨-,⟨-,e0⟩ | ⟨g',cap,cur,rfl,hb',hh,hnc,-⟩⟩:=h2
  ·omega
  ·obtain ⟨A',c',e',hI'⟩:=own_ints h2' (by rw [List.length_cons,←hI.1])
   injection e' with e1 e2 e3
   subst e1 e3
   exact h _ _ w' hI' hnc (below_own hb2 (Nat.le_refl _) h3 fun g' e=>(by have e:some g=some g':=e;injection e with e;omega)) hb'
set_option maxRecDepth 100000 in
set_option maxHeartbeats 16000000 in
theorem sets35_any (b:Nat) (hb6:b≤6):∀ (n f:Nat) (w:World),n≤6→f≤7→Calls Tryz.prog 74 #[.int .i64 f,.int .i64 b,.int .i64 n] w fun e w'=>RetSets w w' (A.combos b n f) e:=by
 intro n
 induction n with
 | zero =>
  intro f w _ hf
  have hd:decide ((0:Int)=0)=true:=rfl
  go_enter Tryz.func74,Tryz.ntmps74
  go_wp2_with fail
  go_ret
  have hr:RowAt (w.alloc (.cells #[.slice none 0 0] 48)) w.heap.size 1 #[.slice none 0 0] [⟨none,0,0,[]⟩]:=⟨heap_alloc_new _ _,rfl,fun k s hk=>by
   cases k with
   | zero=>simp at hk;subst hk;rfl
   | succ k=>simp at hk⟩
  exact ⟨⟨_,1,1,[⟨none,0,0,[]⟩],rfl,hr.shs fun s hs=>by rw [List.mem_singleton] at hs;rw [hs];exact ⟨ints_nil _,Nat.le_refl _,fun _=>⟨rfl,rfl⟩⟩,Nat.le_refl _,rfl,fun ad e=>(by injection e with e;rw [←e];exact Nat.le_refl _),fun s hs h0=>(by rw [List.mem_singleton] at hs;rw [hs] at h0;exact absurd h0 (by simp))⟩,(Below.refl _ _).alloc (Nat.le_refl _) _⟩
 | succ n ih =>
  intro f w hn hf
  have hd:decide (((n + 1:Nat):Int)=0)=false:=by simp;omega
  have hd2:(((n + 1:Nat):Int) == 0)=false:=by simp;omega
  obtain ⟨N,hNn⟩:∃ N,N=n + 1:=⟨_,rfl⟩
  rw [←hNn] at hd hd2 ⊢
  have kN:IntKind.i64.wrap ((N:Int) - 1)=(n:Int):=by rw [IntWalk.i64_in _ (by omega)];omega
  have HC:=Lib.hid (show A.combos b N f=(List.range' f (b - f)).flatMap fun i=>(A.combos b n (i + 1)).map ((i:Int) :: ·) by rw [hNn];rfl)
  have hN0:((N:Int)=0)=False:=by simp;omega
  clear hNn
  go_enter Tryz.func74,Tryz.ntmps74
  go_wp2_with fail
  clear hd hd2 hN0
  go_loopw [7,8] (fun v7 v8 wr=>∃ (i:Nat) (L:List Sh),v8=.int .i64 i∧f≤i∧(i≤b∨i=f)∧wr.ownsRow w.heap.size 48 1 v7 L.length (L.map Sh.val)∧RowOk wr v7 L∧NewL w.heap.size L∧Below w.heap.size w wr∧L.length≤64 * (i - f)∧Hid (L.map Sh.l=(List.range' f (i - f)).flatMap fun i=>(A.combos b n (i + 1)).map ((i:Int) :: ·))) (fun _ v8 _=>b - (intOf v8).toNat)
  case atStart=>exact ⟨f,[],rfl,Nat.le_refl _,.inr rfl,World.ownsRow_nil _ _ _ _,fun s hs=>(by cases hs),fun s hs=>(by cases hs),Below.refl _ _,Nat.zero_le _,by show _=_;rw [Nat.sub_self];rfl⟩
  case round =>
   obtain ⟨i,L,rfl,hfi,hib,hown,hro,hnw,hbr,hll,hcl⟩:=hrel
   by_cases hlt:i < b
   ·obtain ⟨i1,hi1⟩:∃ i1,i1=i + 1:=⟨_,rfl⟩
    have ki:IntKind.i64.wrap ((i:Int) + 1)=(i1:Int):=by rw [IntWalk.i64_in _ (by omega)];omega
    have CS:=ih i1 wr (by omega) (by omega)
    have HI1:=Lib.hid hi1
    have hi7:i1≤6:=by omega
    obtain ⟨D,hD⟩:∃ D,D=A.combos b n i1:=⟨_,rfl⟩
    have hDl:D.length≤64:=by rw [hD];exact A.combos_few hb6 (by omega) (by omega)
    rw [←hD] at CS
    have HD:=Lib.hid hD
    clear hi1 hD
    go_wp2_with fail
    refine CS.mono ?_
    rintro e w2 ⟨⟨E,m,c,l,rfl,hSl,hmc,hlD,hEn,hln⟩,b2⟩
    have hml:m≤64:=by rw [hSl.1.1,←List.length_map (f:=Sh.l),hlD];exact hDl
    have hl6:∀ s ∈ l,s.n≤6:=fun s hs=>by
     rw [(hSl.2 s hs).1.1]
     have h9:s.l ∈ A.combos b n i1:=by rw [←HD.out,←hlD];exact List.mem_map_of_mem hs
     have:=(A.mem_combos.1 h9).1
     omega
    have FE:0 < m→∀ ad,E=some ad→wr.heap.size≤ad.block∧ad.block < w2.heap.size:=fun h0 ad e=>by
     obtain ⟨ad',s,e',-,-,hc⟩:=hSl.at_ h0
     rw [e] at e'
     injection e' with e'
     exact ⟨hEn ad e,by rw [e'];exact cell_lt hc⟩
    have FL:∀ s ∈ l,0 < s.n→∀ ad,s.A=some ad→wr.heap.size≤ad.block∧ad.block < w2.heap.size:=fun s hs h0 ad e=>⟨hln s hs h0 ad e,(hSl.2 s hs).1.lt_of h0 e⟩
    have hob:∀ g,u7.ownBlock=some g→g < wr.heap.size:=fun g e=>(own_in hown g e).2
    have hown2:=own_below hown b2
    have hro2:=hro.below b2
    have hb2:=bel hbr b2
    have hwr2:=b2.size
    clear CS hown hro hbr b2 hEn hln
    go_wp2_with fail
    obtain ⟨W2,hW2⟩:∃ z,z=w2.heap.size:=⟨_,rfl⟩
    obtain ⟨WQ,hWQ⟩:∃ z,z=wr.heap.size:=⟨_,rfl⟩
    rw [←hW2,←hWQ] at FE FL hwr2
    rw [←hWQ] at hob
    go_loopw [7,27] (fun v7 v27 wi=>∃ (j:Nat) (L':List Sh),v27=.int .i64 j∧j≤m∧wi.ownsRow w.heap.size 48 1 v7 L'.length (L'.map Sh.val)∧RowOk wi v7 L'∧NewL w.heap.size L'∧Below w.heap.size w wi∧W2≤wi.heap.size∧L'.length=L.length + j∧Shs wi E m l∧(∀ g,v7.ownBlock=some g→g < WQ∨W2≤g)∧Hid (L'.map Sh.l=L.map Sh.l ++ (l.take j).map fun s=>(i:Int) :: s.l)) (fun _ v27 _=>m - (intOf v27).toNat)
    case atStart=>exact ⟨0,L,rfl,Nat.zero_le _,hown2,hro2,hnw,hb2,Nat.le_of_eq hW2,rfl,hSl,fun g e=>.inl (hob g e),by show _=_;rw [List.take_zero];simp⟩
    case round =>
     obtain ⟨j,L',rfl,hj,hownI,hroI,hnwI,hbI,hWI,hlI,hSI,hobI,hcI⟩:=hrel
     by_cases hjm:j < m
     ·obtain ⟨ad,s,rfl,hg,⟨hI,hsc,hs0⟩,hc⟩:=hSI.at_ hjm
      have j0:decide ((j:Int) < (m:Int))=true:=by simp;omega
      have js:IntKind.i64.wrap ((j:Int) + 1)=((j + 1:Nat):Int):=by rw [IntWalk.i64_in _ (by omega)];omega
      have hsm:=List.mem_of_getElem? hg
      have h6:=hl6 s hsm
      have HG:=Lib.hid hg
      have H6:=Lib.hid h6
      have hn9:s.n≤1000000:=by omega
      have hn8:L'.length≤1000000:=by omega
      have bA:Below wr.heap.size wr (wr.alloc (.cells #[.int .i64 i] 3)):=(Below.refl _ _).alloc (Nat.le_refl _) _
      have h7:∀ g,u7.ownBlock=some g→w.heap.size≤g∧g < wr.heap.size:=fun g e=>own_in hownI g e
      have HLI:=Lib.hid hlI
      clear hg h6 hlI
      go_wp2_with (first
       | (at_builtin;refine wp_pre rfl (.tmp 33) (.tmp 34) rfl wr.heap.size (i:Int) rfl (heap_alloc_new wr _) bA (Nat.le_refl _) rfl hI hn9 ?_;intro B c9 w9 hI9 hc9 hb9 hB9;have bx9:=bel hb9 ((Below.refl _ _).alloc (Nat.le_refl _) (.cells #[.slice (some B) (s.n + 1) c9] 48));have bs9:=(bel hbI bx9).size)
       | (at_builtin;refine app_shs rfl (.tmp 31) (.tmp 36) rfl w.heap.size u7 L'.length L' rfl (own_below hownI bx9) w9.heap.size ⟨some B,s.n + 1,c9,(i:Int) :: s.l⟩ rfl (heap_alloc_new w9 _) hn8 bs9 ?_;intro v' w10 hown10 hgrow10 hat10))
      have hBl:B.block < w9.heap.size:=hI9.lt_of (by omega) rfl
      have h9s:w9.heap.size≤(w9.alloc (.cells #[.slice (some B) (s.n + 1) c9] 48)).heap.size:=((Below.refl w9.heap.size w9).alloc (Nat.le_refl _) _).size
      have h9t:=hb9.size
      have h9u:=hgrow10.size
      go_roundw
      case rel =>
       refine ⟨j + 1,L' ++ [⟨some B,s.n + 1,c9,(i:Int) :: s.l⟩],by go_num,by omega,by rw [List.length_append];exact hown10,((hroI.below bx9).grow hgrow10 hat10).snoc ⟨(hI9.below ((Below.refl _ _).alloc (Nat.le_refl _) _)).grow hgrow10 fun _ ad e e2=>?_,hc9,fun e=>by cases e⟩ (fun _ ad e e2=>?_),hnwI.snoc (fun _ ad e=>?_),below_own (bel hbI bx9) (Nat.le_refl _) hgrow10 (fun g e=>(h7 g e).1),by omega,by rw [List.length_append,HLI.out];simp;omega,(hSI.below bx9).grown hgrow10 (fun h0 ad e e2=>?_) (fun t ht h0 ad e e2=>?_),fun g e=>?_,?_⟩
       ·injection e with e
        have:=(h7 _ e2.symm).2
        rw [←e] at this
        omega
       ·injection e with e
        rcases hat10 with e3 | e3
        ·rw [e3] at e2
         have:=(h7 _ e2).2
         rw [←e] at this
         omega
        ·rw [e3] at e2
         injection e2 with e2
         rw [←e] at e2
         omega
       ·injection e with e
        have:=hbI.size
        rw [←e]
        omega
       ·have a1:=FE h0 ad e
        have a2:=hobI _ e2.symm
        omega
       ·have a1:=FL t ht h0 ad e
        have a2:=hobI _ e2.symm
        omega
       ·rcases hat10 with e3 | e3
        ·rw [e3] at e
         exact hobI g e
        ·rw [e3] at e
         injection e with e
         omega
       ·show _=_
        rw [List.map_append,hcI.out,List.take_add_one,HG.out]
        simp
      case measure=>simp [intOf];omega
     ·have j0:decide ((j:Int) < (m:Int))=false:=by simp;omega
      have HLI:=Lib.hid hlI
      have HJ:=Lib.hid (show j=m by omega)
      clear hlI
      go_wp2_with fail
      go_roundw
      case rel =>
       have hm:m=l.length:=hSl.1.1
       refine ⟨i1,L',rfl,by rw [HI1.out];omega,.inl (by rw [HI1.out];omega),hownI,hroI,hnwI,hbI,by rw [HLI.out,HI1.out];omega,?_⟩
       show _=_
       have e:i1 - f=(i - f) + 1:=by rw [HI1.out];omega
       have e2:f + (i - f)=i:=by omega
       rw [hcI.out,HJ.out,hm,List.take_length,e,A.range_snoc,List.flatMap_append,←hcl.out,e2]
       rw [List.flatMap_singleton,←HI1.out,←HD.out,←hlD,List.map_map]
       rfl
      case measure=>simp [intOf];have:=HI1.out;omega
   ·have i0:decide ((i:Int) < (b:Int))=false:=by simp;omega
    go_wp2_with fail
    go_ret
    obtain ⟨E,c,rfl,hS,hc,hE⟩:=own_shs hown rfl hro
    refine ⟨⟨E,_,c,L,rfl,hS,hc,?_,hE,hnw⟩,hbr⟩
    rw [hcl.out,HC.out]
    congr 2
    omega
set_option maxHeartbeats 4000000 in
theorem refute1_any (G:Nat) (V:Option Addr) (vn vc:Nat) (v:List Int) (s:Sh) (w:World) (hG:w.heap[G]? = some (.cells #[.slice V vn vc] 48 (0,0))) (hs:Ints w s.A s.n s.l) (hn:s.n≤1000000000) (hV:Ints w V vn v) (hvn:vn≤1000000000) :
  Calls Tryz.prog 76 #[.slice s.A s.n s.c,.pointer (some ⟨G,0,none⟩)] w fun e w'=>e=.returned (.bool (A.part s.l v))∧Below w.heap.size w w':=by
 have c0:=blk_cell hG 0 _ rfl
 have CP:=part32_any s.A s.n s.c s.l V vn vc v w hs hn hV hvn
 go_enter Tryz.func76,Tryz.ntmps76
 go_wp2_with fail
 refine CP.mono ?_
 rintro e w1 ⟨rfl,hb1⟩
 go_wp2_with fail
 go_ret
 exact ⟨rfl,hb1⟩
set_option maxHeartbeats 4000000 in
theorem index62_any (G:Nat) (E:Option Addr) (n c:Nat) (shs:List Sh) (V:Option Addr) (vn vc:Nat) (v:List Int) (w:World) (hl:Shs w E n shs) (hn:n≤1000000000) (hG:w.heap[G]? = some (.cells #[.slice V vn vc] 48 (0,0))) (h6:∀ s ∈ shs,s.n≤1000000000) (hV:Ints w V vn v) (hvn:vn≤1000000000) :
  Calls Tryz.prog 126 #[.slice E n c,.func (.func 76) #[] #[.pointer (some ⟨G,0,none⟩)]] w fun e w'=>(∃ i:Int,e=.returned (.int .i64 i)∧(decide (0≤i))=shs.any (fun s=>A.part s.l v))∧Below w.heap.size w w':=by
 go_enter Tryz.func126,Tryz.ntmps126
 go_wp2_with fail
 go_loopw [8] (fun vi wr=>∃ k:Nat,vi=.int .i64 k∧k≤n∧Hid (shs.any (fun s=>A.part s.l v)=(shs.drop k).any (fun s=>A.part s.l v))∧Below w.heap.size w wr) (fun vi _=>n - (intOf vi).toNat)
 case atStart=>exact ⟨0,rfl,by omega,by show _=_;rw [List.drop_zero],Below.refl _ _⟩
 case round =>
  obtain ⟨k,rfl,hk,hr,hW⟩:=hrel
  by_cases hlt:k < n
  ·obtain ⟨ad,s,rfl,hg,⟨hI,-⟩,c0⟩:=(hl.below hW).at_ hlt
   have HS:=Lib.hid (drop_any (p:=fun s:Sh=>A.part s.l v) hg)
   have CB:=refute1_any G V vn vc v s wr (blk_below hW hG) hI (h6 s (List.mem_of_getElem? hg)) (hV.below hW) hvn
   obtain ⟨r9,hr9⟩:∃ r9,r9=A.part s.l v:=⟨_,rfl⟩
   rw [←hr9] at CB
   have HR9:=Lib.hid hr9
   have k0:(0:Int)≤(k:Int):=by omega
   have k1:(k:Int) < (n:Int):=by omega
   clear hg hr9 hI
   go_wp2_with fail
   refine CB.mono ?_
   rintro e w1 ⟨rfl,hW1⟩
   have hW2:=bel hW hW1
   clear CB
   cases r9
   ·go_wp2_with fail
    go_roundw
    case rel=>exact ⟨k + 1,by go_num,by omega,by show _=_;rw [hr.out,HS.out,←HR9.out];rfl,hW2⟩
    case measure=>simp [intOf];omega
   ·go_wp2_with fail
    go_ret
    exact ⟨⟨k,rfl,by rw [hr.out,HS.out,←HR9.out];simp⟩,hW2⟩
  ·have hd:shs.drop k=[]:=List.drop_eq_nil_of_le (by rw [←hl.1.1];omega)
   have HD:=Lib.hid hd
   clear hd
   go_wp2_with fail
   go_ret
   exact ⟨⟨-1,rfl,by rw [hr.out,HD.out];rfl⟩,hW⟩
set_option maxHeartbeats 4000000 in
theorem contains36_any (G:Nat) (E:Option Addr) (n c:Nat) (shs:List Sh) (V:Option Addr) (vn vc:Nat) (v:List Int) (w:World) (hl:Shs w E n shs) (hn:n≤1000000000) (hG:w.heap[G]? = some (.cells #[.slice V vn vc] 48 (0,0))) (h6:∀ s ∈ shs,s.n≤1000000000) (hV:Ints w V vn v) (hvn:vn≤1000000000) :
  Calls Tryz.prog 75 #[.slice E n c,.func (.func 76) #[] #[.pointer (some ⟨G,0,none⟩)]] w fun e w'=>e=.returned (.bool ((shs.map Sh.l).any fun u=>A.part u v))∧Below w.heap.size w w':=by
 have CI:=index62_any G E n c shs V vn vc v w hl hn hG h6 hV hvn
 go_enter Tryz.func75,Tryz.ntmps75
 go_wp2_with fail
 refine CI.mono ?_
 rintro e w1 ⟨⟨i,rfl,hi⟩,hb1⟩
 go_wp2_with fail
 go_ret
 exact ⟨by rw [List.any_map];show _=Ending.returned (.bool (shs.any fun s=>A.part s.l v));rw [←hi];rfl,hb1⟩
namespace A
theorem ownGo_append {ok:List Int→Bool}:∀ (L1 own L2:List (List Int)),ownGo ok own (L1 ++ L2)=ownGo ok (ownGo ok own L1) L2
 | [],_,_=>rfl
 | v :: L1,own,L2=>by
  rw [List.cons_append,ownGo,ownGo]
  exact ownGo_append L1 _ L2
theorem ownGo_yes {ok:List Int→Bool} {own L:List (List Int)} {v:List Int} (h:((ownGo ok own L).any fun u=>part u v)=false) (h2:ok v=false):ownGo ok own (L ++ [v])=ownGo ok own L ++ [v]:=by
 rw [ownGo_append,ownGo,ownGo,h,h2]
 rfl
theorem ownGo_no {ok:List Int→Bool} {own L:List (List Int)} {v:List Int} (h:((ownGo ok own L).any fun u=>part u v)=true∨ok v=true):ownGo ok own (L ++ [v])=ownGo ok own L:=by
 rw [ownGo_append,ownGo,ownGo]
 rcases h with h | h <;> rw [h] <;> simp
def upto (n k:Nat):List (List Int):=(List.range k).flatMap fun k=>combos n (k + 1) 0
theorem upto_succ (n k:Nat):upto n (k + 1)=upto n k ++ combos n (k + 1) 0:=by unfold upto;rw [List.range_succ,List.flatMap_append,List.flatMap_singleton]
end A
namespace K
section
variable {nd : Int} {l : List Ro} {ss : List S} {r : List Q}
theorem plan_four (h:(plan nd l ss r).2=4):pcheck nd l ss r=0:=by
 unfold plan at h
 split at h
 ·assumption
 ·rename_i h1
  exfalso
  have h:pcheck nd l ss r=4:=h
  unfold pcheck at h
  split at h
  ·split at h <;> cases h
  ·cases h
theorem refute_zero (h:(plan nd l ss r).2=0):refute nd l ss r=([],7):=by unfold refute;rw [if_pos h]
theorem refute_other (h:(plan nd l ss r).2 ≠ 0) (h2:(plan nd l ss r).2 ≠ 4):refute nd l ss r=([],(plan nd l ss r).2):=by unfold refute;rw [if_neg h,if_neg h2]
theorem refute_four (h:(plan nd l ss r).2=4):refute nd l ss r=((sets32 nd l ss r).map (blk32 nd l ss r),0):=by unfold refute;rw [if_neg (by rw [h];decide),if_pos h]
theorem labs_len6 {s:S} {v:List Int} (h:v.length≤6):(labs nd l s r v).length≤384:=by
 unfold labs
 split
 ·refine Nat.le_trans (tabLabs_len _ _ _) ?_
  have:2 ^ v.length≤2 ^ 6:=Nat.pow_le_pow_right (by omega) h
  exact Nat.le_trans (Nat.mul_le_mul this h) (by decide)
 ·exact Nat.zero_le _
def blksUpto (nd:Int) (l:List Ro) (ss:List S) (r:List Q) (s:Nat):List (Int × List Int × List Lb):=(List.range s).flatMap fun s=>(A.own (feas nd l ss r s) r.length).map fun v=>((s:Int),(blk32 nd l ss r (s,v)).2)
theorem blksUpto_succ (s:Nat):blksUpto nd l ss r (s + 1)=blksUpto nd l ss r s ++ (A.own (feas nd l ss r s) r.length).map fun v=>((s:Int),(blk32 nd l ss r (s,v)).2):=by unfold blksUpto;rw [List.range_succ,List.flatMap_append,List.flatMap_singleton]
theorem blksUpto_all:((sets32 nd l ss r).map (blk32 nd l ss r)).map (fun b=>((b.1:Int),b.2))=blksUpto nd l ss r ss.length:=by
 unfold sets32 blksUpto
 rw [List.map_map,List.map_flatMap]
 congr 1
 funext s
 rw [List.map_map]
 rfl
end
end K
theorem Shs.ext {w w':World} {E:Option Addr} {n:Nat} {l:List Sh} (h:Shs w E n l) (he:Ext w w'):Shs w' E n l:=⟨Lst.ext h.1 he,fun s hs=>⟨(h.2 s hs).1.ext he,(h.2 s hs).2⟩⟩
theorem RowOk.ext {w w':World} {v:Value} {L:List Sh} (h:RowOk w v L) (he:Ext w w'):RowOk w' v L:=fun s hs=>⟨⟨(h s hs).1.1.ext he,(h s hs).1.2⟩,(h s hs).2⟩
def OffRow (E:Option Addr) (m:Nat) (v:Value):Prop:=0 < m→∀ ad,E=some ad→v.ownBlock ≠ some ad.block
theorem OffRow.grow {w:World} {v v':Value} {E:Option Addr} {m:Nat} {l:List Sh} (h:OffRow E m v) (hS:Shs w E m l) (ha:v'.ownBlock=v.ownBlock∨v'.ownBlock=some w.heap.size):OffRow E m v':=fun h0 ad e e2=>by
 rcases ha with e3 | e3
 ·rw [e3] at e2;exact h h0 ad e e2
 ·rw [e3] at e2
  injection e2 with e2
  obtain ⟨ad',s,e',-,-,hc⟩:=hS.at_ h0
  rw [e] at e'
  injection e' with e'
  subst e'
  have:=cell_lt hc
  rw [add_block] at this
  omega
def BlOk (w:World) (v:Value) (bl:List BV):Prop:=∀ y ∈ bl,(Ints w y.V y.vn y.v∧Labs w y.LA y.ln y.lb)∧OffRow y.V y.vn v∧OffRow y.LA y.ln v∧(y.vn≤y.vc∧y.vn≤6∧y.ln≤384)
theorem BlOk.ext {w w':World} {v:Value} {bl:List BV} (h:BlOk w v bl) (he:Ext w w'):BlOk w' v bl:=fun y hy=>⟨⟨(h y hy).1.1.ext he,Lst.ext (h y hy).1.2 he⟩,(h y hy).2⟩
theorem BlOk.below {w w':World} {v:Value} {bl:List BV} (h:BlOk w v bl) (hb:Below w.heap.size w w'):BlOk w' v bl:=h.ext (Ext.below hb)
theorem Labs.grow {w w':World} {A:Option Addr} {n:Nat} {l:List Lb} {r:Option Nat} (h:Labs w A n l) (hg:w.grownBy w' r) (hne:0 < n→∀ ad,A=some ad→some ad.block ≠ r):Labs w' A n l:=by
 refine ⟨h.1,h.2.1,fun h0=>?_⟩
 obtain ⟨ad,e,hc⟩:=h.2.2 h0
 refine ⟨ad,e,fun j u hu=>?_⟩
 have c:=hc j u hu
 exact (World.cell?_of_block (hg.block _ (cell_lt c) (by rw [add_block];exact hne h0 ad e))).trans c
theorem Labs.lt_of {w:World} {A:Option Addr} {n:Nat} {l:List Lb} (h:Labs w A n l) (h0:0 < n) {ad:Addr} (e:A=some ad):ad.block < w.heap.size:=by
 obtain ⟨ad',e',hc⟩:=h.2.2 h0
 rw [e] at e'
 injection e' with e'
 have hl:0 < (l.flatMap labCells).length:=by rw [h.2.1];omega
 have:=cell_lt (hc 0 _ (List.getElem?_eq_getElem hl))
 rw [add_block,←e'] at this
 exact this
theorem BlOk.grow {w w':World} {v v':Value} {bl:List BV} (h:BlOk w v bl) (hg:w.grownBy w' v.ownBlock) (ha:v'.ownBlock=v.ownBlock∨v'.ownBlock=some w.heap.size):BlOk w' v' bl:=fun y hy=>by
 obtain ⟨⟨h1,h2⟩,h3,h4,h5⟩:=h y hy
 refine ⟨⟨h1.grow hg fun h0 ad e e2=>h3 h0 ad e e2.symm,h2.grow hg fun h0 ad e e2=>h4 h0 ad e e2.symm⟩,fun h0 ad e e2=>?_,fun h0 ad e e2=>?_,h5⟩
 ·rcases ha with e3 | e3
  ·rw [e3] at e2;exact h3 h0 ad e e2
  ·rw [e3] at e2
   injection e2 with e2
   have:=h1.lt_of h0 e
   omega
 ·rcases ha with e3 | e3
  ·rw [e3] at e2;exact h4 h0 ad e e2
  ·rw [e3] at e2
   injection e2 with e2
   have:=h2.lt_of h0 e
   omega
theorem BlOk.snoc {w:World} {v:Value} {bl:List BV} (h:BlOk w v bl) {y:BV} (h1:(Ints w y.V y.vn y.v∧Labs w y.LA y.ln y.lb)∧OffRow y.V y.vn v∧OffRow y.LA y.ln v∧(y.vn≤y.vc∧y.vn≤6∧y.ln≤384)):BlOk w v (bl ++ [y]):=fun s hs=>by
 rcases List.mem_append.1 hs with hs | hs
 ·exact h s hs
 ·rw [List.mem_singleton] at hs
  rw [hs];exact h1
theorem Tryz.info90:(Tryz.prog.info? 90).map (fun i=>(i.zero,i.size,i.bytes))=some (some (.agg #[.int .i64 0,.slice none 0 0,.slice none 0 0]),3,56):=by kernel_rfl
set_option maxRecDepth 100000 in
theorem step_app_blk {ops:Array Oper} {o:Oper} {a:Act} {w w2:World} {K:Act→World→Prop} {Q:Exit→Act→World→Prop} {E:Prop} (hgd:o.guard=none) (s x:Operand)
  (ho:o.op=.call { callee:=.builtin .append,args:=#[s,x],argTypes:=#[28,28] })
  {base:Nat} {v:Value} {n:Nat} {l:List BV} (hown:w2.ownsRow base 90 3 v n (l.flatMap BV.cells)) (hbase:base≤w2.heap.size) (hs:a.eval s=v) (g:Nat) (y:BV) (hx:a.eval x=.slice (some ⟨g,0,none⟩) 1 1)
  (hw:Below w2.heap.size w2 w) (hg:w.heap[g]? = some (.cells #[.int .i64 y.sh,.slice y.V y.vn y.vc,.slice y.LA y.ln y.lc] 90 (0,0))) (hn:n≤1000000)
  (h:∀ v' w',w'.ownsRow base 90 3 v' (n + 1) ((l ++ [y]).flatMap BV.cells)→w.grownBy w' v.ownBlock→(v'.ownBlock=v.ownBlock∨v'.ownBlock=some w.heap.size)→K (a.put o.dst v') w') :
  if Region.wanted o (yielded ops a.tmps)=true then Oper.wp Tryz.prog o a w K Q else E:=by
 obtain ⟨i0,hi,hz0,hz1,hz2⟩:=info_parts Tryz.info90
 refine step_append_rd hgd s x 28 ho base 90 i0 (.agg #[.int .i64 0,.slice none 0 0,.slice none 0 0]) 3 56 Tryz.underlying28 hi hz0 hz1 hz2 rfl (by decide) v n (l.flatMap BV.cells) hs (own_below hown hw) (some ⟨g,0,none⟩) 1 1 y.cells hx ⟨rfl,fun _=>⟨_,rfl,fun j u hu=>by rw [add_zero_block];exact blk_cell hg j u (by simpa [BV.cells] using hu)⟩⟩ (fun u hu=>?_) (by simp only [maxLen];omega) (by omega) (Nat.le_trans hbase hw.size) ?_
 ·simp [BV.cells] at hu
  rcases hu with rfl | rfl | rfl <;> rfl
 ·intro v' w' h2 h3 h4
  exact h v' w' (by rw [List.flatMap_append];simpa using h2) h3 h4
def RetRefute (w w':World) (p:List (Int × List Int × List Lb)) (er:Int) (e:Ending):Prop :=
 (∃ A n c bl,e=.returned (.tuple #[.slice A n c,.int .i64 er])∧Blks w' A n bl∧n≤c∧FewB n bl∧bl.map BV.pr=p)∧Below w.heap.size w w'
theorem PlAt.app {w0 w w':World} {b mb gb:Nat} {x:Cs} {X X':Nat→Prop} {shs:List Sh} {v v':Value} (h:PlAt w0 w b mb gb x X shs) (hg:w.grownBy w' v.ownBlock) (hv:∀ g,v.ownBlock=some g→X g) (ha:v'.ownBlock=v.ownBlock∨v'.ownBlock=some w.heap.size) (hX:∀ g,X' g→X g∨v'.ownBlock=some g):PlAt w0 w' b mb gb x X' shs:=by
 refine ((h.turn (Y:=fun g=>X g∨g=w.heap.size) (fun g h=>h.elim .inl fun e=>.inr (by rw [e];exact Nat.le_refl _))).own hg (fun g e=>.inl (hv g e))).turn fun g h=>.inl ?_
 rcases hX g h with h | h
 ·exact .inl h
 ·rcases ha with e | e
  ·rw [e] at h;exact .inl (hv g h)
  ·rw [e] at h;injection h with h;exact .inr h.symm
theorem gb_below {ws w w':World} {r:Option Nat} (h:ws.grownBy w r) (hb:Below w.heap.size w w'):ws.grownBy w' r:=h.andThen (row':=none) ⟨hb.os,hb.tape,hb.output,hb.size,fun q hq _=>hb.block q hq⟩ (fun _ e=>by cases e)
structure Mid (w1 ws w:World) (b mb gb:Nat) (x:Cs) (shs:List Sh) (u v:Value) (BS:Nat) (own:List Sh) (E:Option Addr) (m:Nat) (l:List Sh):Prop where
 row:w.ownsRow BS 48 1 v own.length (own.map Sh.val)
 ok:RowOk w v own
 pl:PlAt w1 w b mb gb x (fun g=>u.ownBlock=some g∨v.ownBlock=some g) shs
 gr:ws.grownBy w (some mb)
 sh:Shs w E m l
 off:OffRow E m v
 lk:RowOk w v l
theorem Mid.below {w1 ws w w':World} {b mb gb:Nat} {x:Cs} {shs:List Sh} {u v:Value} {BS:Nat} {own:List Sh} {E:Option Addr} {m:Nat} {l:List Sh} (h:Mid w1 ws w b mb gb x shs u v BS own E m l) (hb:Below w.heap.size w w'):Mid w1 ws w' b mb gb x shs u v BS own E m l :=
 ⟨own_below h.row hb,h.ok.below hb,h.pl.below hb,gb_below h.gr hb,h.sh.below hb,h.off,h.lk.below hb⟩
theorem Mid.best {w1 ws w w':World} {b mb gb:Nat} {x:Cs} {shs:List Sh} {u v:Value} {BS:Nat} {own:List Sh} {E:Option Addr} {m:Nat} {l:List Sh} (h:Mid w1 ws w b mb gb x shs u v BS own E m l) (hg:w.grownBy w' (some mb)) (hp:PlAt w1 w' b mb gb x (fun g=>u.ownBlock=some g∨v.ownBlock=some g) shs):Mid w1 ws w' b mb gb x shs u v BS own E m l :=
 ⟨h.row.kept hg (.inr fun e=>(h.pl.away mb (.inr e)).2.2.1 rfl),h.ok.ext (h.pl.memo.ext hg),hp,h.gr.trans hg,h.sh.ext (h.pl.memo.ext hg),h.off,h.lk.ext (h.pl.memo.ext hg)⟩
theorem Mid.app {w1 ws w w':World} {b mb gb:Nat} {x:Cs} {shs:List Sh} {u v v':Value} {BS:Nat} {own:List Sh} {E:Option Addr} {m:Nat} {l:List Sh} (h:Mid w1 ws w b mb gb x shs u v BS own E m l) {y:Sh} (hy:y ∈ l) (hg:w.grownBy w' v.ownBlock) (ha:v'.ownBlock=v.ownBlock∨v'.ownBlock=some w.heap.size) (hr:w'.ownsRow BS 48 1 v' (own.length + 1) ((own ++ [y]).map Sh.val)) (hBS:BS=ws.heap.size):Mid w1 ws w' b mb gb x shs u v' BS (own ++ [y]) E m l:=by
 have h1:=h.lk.grow hg ha
 refine ⟨by rw [List.length_append];exact hr,(h.ok.grow hg ha).snoc (h1 y hy).1 (h1 y hy).2,h.pl.app hg (fun g e=>.inr e) ha (fun g e=>e.elim (fun e=>.inl (.inl e)) .inr),h.gr.andThen hg (fun j e=>.inl (by rw [←hBS];exact (own_in h.row j e).1)),h.sh.grown hg (fun h0 ad e e2=>h.off h0 ad e e2.symm) (fun s hs h0 ad e e2=>(h.lk s hs).2 h0 ad e e2.symm),h.off.grow h.sh ha,h1⟩
structure Fin4 (w1 w:World) (b mb gb:Nat) (x:Cs) (shs:List Sh) (v:Value) (B1:Nat) (bl:List BV) (E:Option Addr) (n:Nat) (own:List Sh):Prop where
 row:w.ownsRow B1 90 3 v bl.length (bl.flatMap BV.cells)
 ok:BlOk w v bl
 pl:PlAt w1 w b mb gb x (fun g=>v.ownBlock=some g) shs
 sh:Shs w E n own
 off:OffRow E n v
 lk:RowOk w v own
theorem Fin4.below {w1 w w':World} {b mb gb:Nat} {x:Cs} {shs:List Sh} {v:Value} {B1:Nat} {bl:List BV} {E:Option Addr} {n:Nat} {own:List Sh} (h:Fin4 w1 w b mb gb x shs v B1 bl E n own) (hb:Below w.heap.size w w'):Fin4 w1 w' b mb gb x shs v B1 bl E n own :=
 ⟨own_below h.row hb,h.ok.below hb,h.pl.below hb,h.sh.below hb,h.off,h.lk.below hb⟩
theorem Fin4.app {w1 w w':World} {b mb gb:Nat} {x:Cs} {shs:List Sh} {v v':Value} {B1:Nat} {bl:List BV} {E:Option Addr} {n:Nat} {own:List Sh} (h:Fin4 w1 w b mb gb x shs v B1 bl E n own) {y:BV} (hy:(Ints w y.V y.vn y.v∧Labs w y.LA y.ln y.lb)∧OffRow y.V y.vn v∧OffRow y.LA y.ln v∧(y.vn≤y.vc∧y.vn≤6∧y.ln≤384)) (hg:w.grownBy w' v.ownBlock) (ha:v'.ownBlock=v.ownBlock∨v'.ownBlock=some w.heap.size) (hr:w'.ownsRow B1 90 3 v' (bl.length + 1) ((bl ++ [y]).flatMap BV.cells)):Fin4 w1 w' b mb gb x shs v' B1 (bl ++ [y]) E n own :=
 ⟨by rw [List.length_append];exact hr,(h.ok.snoc hy).grow hg ha,h.pl.app hg (fun g e=>e) ha (fun g e=>.inr e),h.sh.grown hg (fun h0 ad e e2=>h.off h0 ad e e2.symm) (fun s hs h0 ad e e2=>(h.lk s hs).2 h0 ad e e2.symm),h.off.grow h.sh ha,h.lk.grow hg ha⟩
set_option maxHeartbeats 2000000 in
theorem sameInts28_any (A B:Option Addr) (n m c d:Nat) (la lb:List Int) (w:World) (hla:Ints w A n la) (hlb:Ints w B m lb) (hn:n≤1000000000) (hm:m≤1000000000) :
  Calls Tryz.prog 50 #[.slice A n c,.slice B m d] w fun e w'=>e=.returned (.bool (decide (la=lb)))∧Below w.heap.size w w':=by
 by_cases hnm:n=m
 ·obtain rfl:=hnm
  go_enter Tryz.func50,Tryz.ntmps50
  go_wp2_with fail
  go_loopw [5] (fun vi wr=>∃ k:Nat,vi=.int .i64 k∧k≤n∧Hid (la.take k=lb.take k)∧Below w.heap.size w wr) (fun vi _=>n - (intOf vi).toNat)
  case atStart=>exact ⟨0,rfl,by omega,rfl,Below.refl _ _⟩
  case round =>
   obtain ⟨k,rfl,hk,hr,hb⟩:=hrel
   by_cases hlt:k < n
   ·obtain ⟨ad,o,rfl,hg,c0⟩:=(hla.below hb).at_ hlt
    obtain ⟨ad2,o2,rfl,hg2,c02⟩:=(hlb.below hb).at_ hlt
    have HN:=Lib.hid (take_eq_nexti hg hg2 hr.out)
    clear hg hg2
    by_cases ho:o=o2
    ·have HX:=Lib.hid (HN.out.2 ho)
     subst ho
     go_wp2_with fail
     go_quiet (fail)
     go_wp2_with fail
     go_roundw
     case rel=>exact ⟨k + 1,by go_num,by omega,HX.out,below_drewN hb _⟩
     case measure=>simp [intOf];omega
    ·have HX:=Lib.hid (fun h=>ho (HN.out.1 h))
     have q2:(o == o2)=false:=by simpa using ho
     go_wp2_with fail
     go_quiet (fail)
     go_wp2_with fail
     go_ret
     exact ⟨ret_b (Eq.symm (decide_eq_false (fun h=>HX.out (by rw [h])))),below_drewN hb _⟩
   ·have HX:=Lib.hid (show la=lb by
     have h:=hr.out
     rw [List.take_of_length_le (by rw [←hla.1];omega),List.take_of_length_le (by rw [←hlb.1];omega)] at h
     exact h)
    go_wp2_with fail
    go_ret
    exact ⟨ret_b (Eq.symm (decide_eq_true HX.out)),hb⟩
 ·have HX:=Lib.hid (show ¬ la=lb from fun h=>hnm (by rw [hla.1,hlb.1,h]))
  have q1:(((n:Nat):Int) != ((m:Nat):Int))=true:=by simp;omega
  go_enter Tryz.func50,Tryz.ntmps50
  go_wp2_with fail
  go_ret
  exact ⟨ret_b (Eq.symm (decide_eq_false HX.out)),Below.refl _ _⟩
namespace K
section
variable {nd : Int} {l : List Ro} {ss : List S} {r : List Q} {ts : List (Int × Tr)}
theorem checks_few (h:checks nd l ss r ts=0):ts.length≤4∧∀ t ∈ ts,t.2.stops.length≤6∧t.2.times.length≤6:=by
 unfold checks at h
 split at h
 case isFalse h1=>exact absurd h h1
 rename_i h1
 obtain ⟨-,hs4,-,-,hr6⟩:=pcheck_ok h1
 obtain ⟨g1,g2,-,-⟩:=checkGo_parts ts _ _ h
 refine ⟨?_,fun t ht=>?_⟩
 ·have hn:(ts.map fun t=>t.1).Nodup:=by
   unfold List.Nodup
   rw [List.pairwise_map]
   exact g2.imp fun h=>Int.ne_of_lt h.1
  have:=len_sub (b:=(List.range ss.length).map fun (i:Nat)=>(i:Int)) hn fun y hy=>by
   obtain ⟨t,ht,rfl⟩:=List.mem_map.1 hy
   obtain ⟨-,hg⟩:=g1 t ht
   obtain ⟨x,hx,-⟩:=hg.sh
   have:=(List.getElem?_eq_some_iff.1 hx).1
   have:=hg.pos
   exact List.mem_map.2 ⟨t.1.toNat,by rw [List.mem_range];omega,by omega⟩
  rw [List.length_map,List.length_map,List.length_range] at this
  omega
 ·obtain ⟨-,hg⟩:=g1 t ht
  obtain ⟨x,-,hc⟩:=hg.sh
  obtain ⟨c1,c2,c3⟩:=check_run hc
  have:=len_sub (b:=(List.range r.length).map fun (i:Nat)=>(i:Int)) c3 fun y hy=>List.mem_map.2 ⟨y.toNat,by have:=c2 y hy;rw [List.mem_range];omega,by have:=c2 y hy;omega⟩
  rw [List.length_map,List.length_range] at this
  refine ⟨by omega,?_⟩
  unfold check at hc
  simp only [Bool.and_eq_true,decide_eq_true_eq] at hc
  obtain ⟨-,-,-,e⟩:=run_ok c1
  rw [←hc.2.1,e]
  have:=K.legs_len nd l x r t.2.stops [] x.depot x.start
  show (all nd l x r t.2.stops).times.length≤6
  unfold all
  omega
end
end K
theorem fewT_of {w:World} {A:Option Addr} {n:Nat} {ts:List TV} (hT:Tours w A n ts) (h:ts.length≤4∧∀ t ∈ ts.map TV.pr,t.2.stops.length≤6∧t.2.times.length≤6):FewT n ts:=by
 refine ⟨by have:=hT.1.1;omega,fun y hy=>?_⟩
 have h1:=h.2 y.pr (List.mem_map_of_mem hy)
 have h2:=(hT.2 y hy).1.1
 have h3:=(hT.2 y hy).2.1
 have e1:y.pr.2.stops=y.t.stops:=rfl
 have e2:y.pr.2.times=y.t.times:=rfl
 rw [e1,e2] at h1
 omega
def K.exL32:List Ro:=[⟨0,1,10,-1⟩,⟨1,0,10,-1⟩]
def K.exS32 (A:Option Addr) (c:Nat):S:=⟨1,0,0,60,0,A,1,c,[5]⟩
def K.exQ32 (k:Int):Q:=⟨1,0,k,5,1,1,none,0,0,[]⟩
theorem app_req {ops:Array Oper} {rest:List Oper} {o:Oper} {a:Act} {Q':Exit→Act→World→Prop} {w:World} (hgd:o.guard=none) (s x:Operand)
  (ho:o.op=.call { callee:=.builtin .append,args:=#[s,x],argTypes:=#[26,26] })
  (base:Nat) (v:Value) (n:Nat) (l:List Q) (hs:a.eval s=v) (hown:w.ownsRow base 47 7 v n (l.flatMap Q.cells)) (g:Nat) (y:Q) (hx:a.eval x=.slice (some ⟨g,0,none⟩) 1 1)
  (hg:w.heap[g]? = some (.cells y.cells.toArray 47 (0,0))) (hn:n≤1000000) (hbase:base≤w.heap.size)
  (h:∀ v' w',w'.ownsRow base 47 7 v' (n + 1) ((l ++ [y]).flatMap Q.cells)→w.grownBy w' v.ownBlock→(v'.ownBlock=v.ownBlock∨v'.ownBlock=some w.heap.size)→wpList Tryz.prog ops Q' rest (a.put o.dst v') w') :
  wpList Tryz.prog ops Q' (o :: rest) a w:=by
 obtain ⟨i0,hi,hz0,hz1,hz2⟩:=info_parts Tryz.info47
 refine wpList_append_own_at w hgd s x 26 ho base 47 i0 (.agg #[.int .i64 0,.int .i64 0,.int .i64 0,.int .i64 0,.int .i64 0,.int .i64 0,.slice none 0 0]) 7 72 Tryz.underlying26 hi hz0 hz1 hz2 rfl (by decide) v n (l.flatMap Q.cells) hs hown ⟨g,0,none⟩ 1 1 y.cells hx rfl ?_ ?_ ?_ ?_ hbase ?_
 ·intro j u hu
  rw [add_zero_block]
  exact blk_cell hg j u (by simpa using hu)
 ·intro u hu
  simp [Q.cells] at hu
  rcases hu with rfl | rfl | rfl | rfl | rfl | rfl | rfl <;> rfl
 ·simp only [maxLen];omega
 ·omega
 ·intro v' w' h2 h3 _ h5
  exact h v' w' (by rw [List.flatMap_append];simpa using h2) h3 h5
theorem reqCells_flat:∀ l:List Q,reqCells l=l.flatMap Q.cells
 | []=>rfl
 | q :: l=>by rw [List.flatMap_cons,←reqCells_flat l];rfl
namespace K
section
variable {nd : Int} {l : List Ro} {ss ss' : List S} {r r' : List Q}
theorem pcheck_of (h1:netErr nd l=0) (h2:ss.length≤4) (h3:∀ s ∈ ss,T.check s=0∧s.depot < nd) (h4:∀ q ∈ r,T.right q=true∧q.node < nd) (h5:r.length≤6):pcheck nd l ss r=0:=by
 have a1:ss.any (badS nd)=false:=by
  rw [List.any_eq_false]
  intro s hs
  obtain ⟨b1,b2⟩:=h3 s hs
  simp [badS,b1]
  omega
 have a2:r.any (badQ nd)=false:=by
  rw [List.any_eq_false]
  intro q hq
  obtain ⟨b1,b2⟩:=h4 q hq
  simp [badQ,b1]
  omega
 unfold pcheck
 rw [h1,decide_eq_true h2,a1,a2,if_pos (by decide),if_neg (by omega)]
theorem pcheck_sub (h:pcheck nd l ss r=0) (hs:r'.Sublist r):pcheck nd l ss r'=0:=by
 obtain ⟨h1,h2,h3,h4,h5⟩:=pcheck_ok h
 exact pcheck_of h1 h2 h3 (fun q hq=>h4 q (hs.subset hq)) (Nat.le_trans hs.length_le h5)
theorem plan_42 (h:pcheck nd l ss r=0):(plan nd l ss r).2=0∨(plan nd l ss r).2=4:=by
 rcases plan_cases h with ⟨g,-⟩ | ⟨d,-,g⟩
 ·rw [g];exact .inr rfl
 ·rw [g];exact .inl rfl
end
end K
namespace K
def fits33 (nd:Int) (x:Q):Bool:=T.right x && decide (x.node < nd)
def pick33 (r:List Q) (v:List Int) (x:Q):List Q:=v.map (req r) ++ [x]
def blocks33 (nd:Int) (l:List Ro) (ss:List S) (r:List Q) (x:Q) (v:List Int):Bool:=(plan nd l ss (pick33 r v x)).2 == 4
def find33 (nd:Int) (l:List Ro) (ss:List S) (r:List Q) (x:Q) (c:List Int) (many frm:Nat):Option (List Int) :=
 ((A.combos r.length many frm).map (c ++ ·)).find? (blocks33 nd l ss r x)
def small33 (nd:Int) (l:List Ro) (ss:List S) (r:List Q) (x:Q):Nat→Nat→Option (List Int)
 | 0,_=>none
 | k + 1,many=>match find33 nd l ss r x [] many 0 with
  | some v=>some v
  | none=>small33 nd l ss r x k (many + 1)
structure An where
 acc:Bool
 tours:List (Int × Tr)
 blk:List Int
 proof:List (Int × List Int × List Lb)
def An.zero:An:=⟨false,[],[],[]⟩
def ask33 (nd:Int) (l:List Ro) (ss:List S) (r:List Q) (x:Q):Option (List Q) × An × Int :=
 if (plan nd l ss r).2 ≠ 0∨fits33 nd x=false then (none,An.zero,1)
 else if 6≤r.length then (none,An.zero,6)
 else if (plan nd l ss (r ++ [x])).2=0 then (some (r ++ [x]),⟨true,(plan nd l ss (r ++ [x])).1.map fun t=>((t.1:Int),t.2),[],[]⟩,0)
 else match small33 nd l ss r x (r.length + 1) 0 with
  | some v=>(some r,⟨false,[],v,(refute nd l ss (pick33 r v x)).1.map fun b=>((b.1:Int),b.2)⟩,0)
  | none=>(some r,An.zero,0)
def asc33 (n:Int):Int→List Int→Bool
 | _,[]=>true
 | p,i :: v=>!decide (i≤p) && (!decide (n≤i) && asc33 n i v)
def check33 (nd:Int) (l:List Ro) (ss:List S) (r:List Q) (x:Q) (a:An):Bool :=
 if fits33 nd x=false∨6≤r.length then false
 else if a.acc=true then (a.blk.length + a.proof.length == 0) && (checks nd l ss (r ++ [x]) a.tours == 0)
 else asc33 r.length (-1) a.blk && ((a.tours.length == 0) && refutes nd l ss (pick33 r a.blk x) a.proof)
section
variable {nd : Int} {l : List Ro} {ss ss' : List S} {r r' : List Q} {x : Q}
theorem plan_same (h:r'.map Q.bare=r.map Q.bare) (g:ss'.map S.bare=ss.map S.bare):plan nd l ss' r'=plan nd l ss r:=by rw [←plan_bare nd l r' ss',h,g,plan_bare]
theorem refute_same (h:r'.map Q.bare=r.map Q.bare) (g:ss'.map S.bare=ss.map S.bare):refute nd l ss' r'=refute nd l ss r:=by rw [←refute_bare nd l r' ss',h,g,refute_bare]
theorem checks_same (h:r'.map Q.bare=r.map Q.bare) (g:ss'.map S.bare=ss.map S.bare) (ts:List (Int × Tr)):checks nd l ss' r' ts=checks nd l ss r ts:=by rw [←checks_bare nd l r' ss',h,g,checks_bare]
theorem refutes_same (h:r'.map Q.bare=r.map Q.bare) (g:ss'.map S.bare=ss.map S.bare) (bl:List (Int × List Int × List Lb)):refutes nd l ss' r' bl=refutes nd l ss r bl:=by rw [←refutes_bare nd l r' ss',h,g,refutes_bare]
theorem req_at {i:Nat} {q:Q} (h:r[i]? = some q):req r (i:Int)=q:=by unfold req;rw [Int.toNat_natCast,h];rfl
theorem pick_iota:pick33 r (iota r.length) x=r ++ [x]:=by
 unfold pick33
 congr 1
 apply List.ext_getElem?
 intro i
 rw [List.getElem?_map,iota,List.getElem?_map]
 by_cases hi:i < r.length
 ·rw [List.getElem?_range hi,Option.map_some,Option.map_some,req_at (List.getElem?_eq_getElem hi),List.getElem?_eq_getElem hi]
 ·rw [List.getElem?_eq_none (by rw [List.length_range];omega),List.getElem?_eq_none (by omega)]
  rfl
theorem pick_same (h:r'.map Q.bare=r.map Q.bare) {x':Q} (hx:x'.bare=x.bare) (v:List Int):(pick33 r' v x').map Q.bare=(pick33 r v x).map Q.bare:=by
 unfold pick33
 rw [List.map_append,List.map_append,List.map_map,List.map_map,List.map_singleton,List.map_singleton,hx]
 congr 1
 refine List.map_congr_left fun i _=>?_
 show (req r' i).bare=(req r i).bare
 rw [←req_bare,←req_bare,h]
theorem same_len (h:r'.map Q.bare=r.map Q.bare):r'.length=r.length:=by have:=congrArg List.length h;rwa [List.length_map,List.length_map] at this
theorem fits_same {x':Q} (hx:x'.bare=x.bare):fits33 nd x'=fits33 nd x:=by
 have h1:∀ y:Q,fits33 nd y.bare=fits33 nd y:=fun _=>rfl
 rw [←h1 x',hx,h1]
theorem app_same (h:r'.map Q.bare=r.map Q.bare) {x':Q} (hx:x'.bare=x.bare):(r' ++ [x']).map Q.bare=(r ++ [x]).map Q.bare:=by
 rw [List.map_append,List.map_append,h,List.map_singleton,List.map_singleton,hx]
theorem find_same (h:r'.map Q.bare=r.map Q.bare) (g:ss'.map S.bare=ss.map S.bare) {x':Q} (hx:x'.bare=x.bare) (c:List Int) (m f:Nat):find33 nd l ss' r' x' c m f=find33 nd l ss r x c m f:=by
 have:blocks33 nd l ss' r' x'=blocks33 nd l ss r x:=by
  funext v
  unfold blocks33
  rw [plan_same (pick_same h hx v) g]
 unfold find33
 rw [this,same_len h]
theorem small_same (h:r'.map Q.bare=r.map Q.bare) (g:ss'.map S.bare=ss.map S.bare) {x':Q} (hx:x'.bare=x.bare):∀ (k m:Nat),small33 nd l ss' r' x' k m=small33 nd l ss r x k m
 | 0,_=>rfl
 | k + 1,m=>by rw [small33,small33,find_same h g hx,small_same h g hx k (m + 1)]
theorem ask_same (h:r'.map Q.bare=r.map Q.bare) (g:ss'.map S.bare=ss.map S.bare) {x':Q} (hx:x'.bare=x.bare):(ask33 nd l ss' r' x').2=(ask33 nd l ss r x).2∧(ask33 nd l ss' r' x').1.map (List.map Q.bare)=(ask33 nd l ss r x).1.map (List.map Q.bare):=by
 have hp:=plan_same (nd:=nd) (l:=l) h g
 have hq:=plan_same (nd:=nd) (l:=l) (app_same h hx) g
 have hs:=small_same (nd:=nd) (l:=l) h g hx
 have hr:=fun v=>refute_same (nd:=nd) (l:=l) (pick_same h hx v) g
 have hl:=same_len h
 unfold ask33
 rw [hp,hq,fits_same hx,hl,hs]
 split
 ·exact ⟨rfl,rfl⟩
 split
 ·exact ⟨rfl,rfl⟩
 split
 ·exact ⟨rfl,by simp only [Option.map_some];rw [app_same h hx]⟩
 split
 ·exact ⟨by rw [hr],by simp only [Option.map_some];rw [h]⟩
 ·exact ⟨rfl,by simp only [Option.map_some];rw [h]⟩
theorem check_same (h:r'.map Q.bare=r.map Q.bare) (g:ss'.map S.bare=ss.map S.bare) {x':Q} (hx:x'.bare=x.bare) (a:An):check33 nd l ss' r' x' a=check33 nd l ss r x a:=by
 unfold check33
 rw [fits_same hx,same_len h,checks_same (app_same h hx) g,refutes_same (pick_same h hx _) g]
theorem asc33_iff {n:Int}:∀ {v:List Int} {p:Int},asc33 n p v=true ↔ v.Pairwise (· < ·)∧∀ i ∈ v,p < i∧i < n
 | [],p=>⟨fun _=>⟨List.Pairwise.nil,fun i h=>by cases h⟩,fun _=>rfl⟩
 | j :: v,p=>by
  rw [asc33,Bool.and_eq_true,Bool.and_eq_true,Bool.not_eq_true',Bool.not_eq_true',decide_eq_false_iff_not,decide_eq_false_iff_not,asc33_iff,List.pairwise_cons]
  constructor
  ·rintro ⟨h1,h2,h3,h4⟩
   refine ⟨⟨fun i hi=>(h4 i hi).1,h3⟩,fun i hi=>?_⟩
   rcases List.mem_cons.1 hi with rfl | hi
   ·omega
   ·have:=h4 i hi;omega
  ·rintro ⟨⟨h1,h2⟩,h3⟩
   have hj:=h3 j (List.mem_cons_self ..)
   exact ⟨by omega,by omega,h2,fun i hi=>⟨h1 i hi,(h3 i (List.mem_cons_of_mem _ hi)).2⟩⟩
theorem small33_some:∀ {k m:Nat} {v:List Int},small33 nd l ss r x k m=some v→∃ n,m≤n∧n < m + k∧v ∈ A.combos r.length n 0∧blocks33 nd l ss r x v=true∧∀ n',m≤n'→n' < n→∀ u ∈ A.combos r.length n' 0,blocks33 nd l ss r x u=false
 | 0,m,v,h=>by cases h
 | k + 1,m,v,h=>by
  rw [small33] at h
  cases hf:find33 nd l ss r x [] m 0 with
  | some u =>
   rw [hf] at h
   injection h with h
   subst h
   unfold find33 at hf
   have h1:=List.find?_some hf
   have h2:=List.mem_of_find?_eq_some hf
   obtain ⟨u',hu,e⟩:=List.mem_map.1 h2
   rw [List.nil_append] at e
   subst e
   exact ⟨m,Nat.le_refl _,by omega,hu,h1,fun n' h1 h2=>by omega⟩
  | none =>
   rw [hf] at h
   obtain ⟨n,h1,h2,h3,h4,h5⟩:=small33_some h
   refine ⟨n,by omega,by omega,h3,h4,fun n' g1 g2 u hu=>?_⟩
   by_cases e:n'=m
   ·subst e
    unfold find33 at hf
    have:=List.find?_eq_none.1 hf ([] ++ u) (List.mem_map.2 ⟨u,hu,rfl⟩)
    rw [List.nil_append] at this
    simpa using this
   ·exact h5 n' (by omega) g2 u hu
theorem small33_none:∀ {k m:Nat},small33 nd l ss r x k m=none→∀ n,m≤n→n < m + k→∀ u ∈ A.combos r.length n 0,blocks33 nd l ss r x u=false
 | 0,m,_,n,h1,h2=>by omega
 | k + 1,m,h,n,h1,h2=>fun u hu=>by
  rw [small33] at h
  cases hf:find33 nd l ss r x [] m 0 with
  | some u=>rw [hf] at h;cases h
  | none =>
   rw [hf] at h
   by_cases e:n=m
   ·subst e
    unfold find33 at hf
    have:=List.find?_eq_none.1 hf ([] ++ u) (List.mem_map.2 ⟨u,hu,rfl⟩)
    rw [List.nil_append] at this
    simpa using this
   ·exact small33_none h n (by omega) (by omega) u hu
theorem iota_combo (n:Nat):iota n ∈ A.combos n n 0:=A.mem_combos.2 ⟨by unfold iota;rw [List.length_map,List.length_range],iota_sorted n,fun y hy=>by have:=mem_iota.1 hy;omega⟩
theorem pick_sub:∀ {v:List Int},v.Pairwise (· < ·)→(∀ i ∈ v,0≤i∧i < (r.length:Int))→(v.map (req r)).Sublist r:=by
 have key:∀ (r:List Q) (v:List Int),v.Pairwise (· < ·)→(∀ i ∈ v,0≤i∧i < (r.length:Int))→(v.map (req r)).Sublist r:=by
  intro r
  induction r with
  | nil =>
   intro v _ hv
   cases v with
   | nil=>exact List.Sublist.refl _
   | cons i v=>have:=hv i (List.mem_cons_self ..);simp at this;omega
  | cons q r ih =>
   intro v hp hv
   have shift:∀ (u:List Int),(∀ i ∈ u,1≤i)→u.map (req (q :: r))=(u.map (· - 1)).map (req r):=by
    intro u hu
    rw [List.map_map]
    refine List.map_congr_left fun i hi=>?_
    have:=hu i hi
    show req (q :: r) i=req r (i - 1)
    unfold req
    rw [show i.toNat=(i - 1).toNat + 1 by omega,List.getElem?_cons_succ]
   have pw:∀ (u:List Int),u.Pairwise (· < ·)→(u.map (· - 1)).Pairwise (· < ·):=fun u hu=>List.pairwise_map.2 (hu.imp (by intro a b h;omega))
   cases v with
   | nil=>exact List.nil_sublist _
   | cons i v =>
    obtain ⟨h1,h2⟩:=List.pairwise_cons.1 hp
    have hi:=hv i (List.mem_cons_self ..)
    by_cases e:i=0
    ·subst e
     rw [List.map_cons,shift v (fun j hj=>by have:=h1 j hj;omega)]
     refine List.Sublist.cons_cons _ (ih _ (pw v h2) fun j hj=>?_)
     obtain ⟨k,hk,rfl⟩:=List.mem_map.1 hj
     have:=h1 k hk
     have:=hv k (List.mem_cons_of_mem _ hk)
     rw [List.length_cons] at this
     omega
    ·rw [shift (i :: v) (fun j hj=>by
      rcases List.mem_cons.1 hj with rfl | hj
      ·omega
      ·have:=h1 j hj;omega)]
     refine List.Sublist.cons _ (ih _ (pw _ hp) fun j hj=>?_)
     obtain ⟨k,hk,rfl⟩:=List.mem_map.1 hj
     have h9:=hv k hk
     rw [List.length_cons] at h9
     rcases List.mem_cons.1 hk with rfl | hk
     ·omega
     ·have:=h1 k hk;omega
 exact fun {v} h1 h2=>key r v h1 h2
theorem pick_subl {v:List Int} (h1:v.Pairwise (· < ·)) (h2:∀ i ∈ v,0≤i∧i < (r.length:Int)):(pick33 r v x).Sublist (r ++ [x]):=(pick_sub h1 h2).append (List.Sublist.refl _)
theorem fits_q (h:pcheck nd l ss r=0) (hx:fits33 nd x=true) (hl:r.length + 1≤6):pcheck nd l ss (r ++ [x])=0:=by
 obtain ⟨h1,h2,h3,h4,-⟩:=pcheck_ok h
 refine pcheck_of h1 h2 h3 (fun q hq=>?_) (by rw [List.length_append];exact hl)
 rcases List.mem_append.1 hq with hq | hq
 ·exact h4 q hq
 ·rw [List.mem_singleton.1 hq]
  unfold fits33 at hx
  rw [Bool.and_eq_true,decide_eq_true_iff] at hx
  exact hx
theorem ask_cases:(∃ e,e ≠ 0∧ask33 nd l ss r x=(none,An.zero,e)) ∨
  (((plan nd l ss r).2=0∧fits33 nd x=true∧r.length < 6) ∧
   (((plan nd l ss (r ++ [x])).2=0∧ask33 nd l ss r x=(some (r ++ [x]),⟨true,(plan nd l ss (r ++ [x])).1.map fun t=>((t.1:Int),t.2),[],[]⟩,0)) ∨
    ((plan nd l ss (r ++ [x])).2=4∧∃ v,small33 nd l ss r x (r.length + 1) 0=some v∧ask33 nd l ss r x=(some r,⟨false,[],v,(refute nd l ss (pick33 r v x)).1.map fun b=>((b.1:Int),b.2)⟩,0)))):=by
 by_cases h1:(plan nd l ss r).2 ≠ 0∨fits33 nd x=false
 ·exact .inl ⟨1,by decide,by unfold ask33;rw [if_pos h1]⟩
 by_cases h2:6≤r.length
 ·exact .inl ⟨6,by decide,by unfold ask33;rw [if_neg h1,if_pos h2]⟩
 have h3:(plan nd l ss r).2=0:=by
  by_cases e:(plan nd l ss r).2=0
  ·exact e
  ·exact absurd (.inl e) h1
 have h4:fits33 nd x=true:=by
  cases e:fits33 nd x
  ·exact absurd (.inr e) h1
  ·rfl
 refine .inr ⟨⟨h3,h4,by omega⟩,?_⟩
 have hpc:=fits_q (plan_0 h3).1 h4 (by omega)
 rcases plan_42 hpc with h5 | h5
 ·exact .inl ⟨h5,by unfold ask33;rw [if_neg h1,if_neg h2,if_pos h5]⟩
 ·refine .inr ⟨h5,?_⟩
  cases hs:small33 nd l ss r x (r.length + 1) 0 with
  | none =>
   have:=small33_none hs r.length (Nat.zero_le _) (by omega) _ (iota_combo _)
   unfold blocks33 at this
   rw [pick_iota,h5] at this
   cases this
  | some v=>exact ⟨v,rfl,by unfold ask33;rw [if_neg h1,if_neg h2,if_neg (by omega),hs]⟩
theorem combo_in {n:Nat} {v:List Int} (h:v ∈ A.combos r.length n 0):v.Pairwise (· < ·)∧∀ i ∈ v,0≤i∧i < (r.length:Int):=by
 obtain ⟨-,h1,h2⟩:=A.mem_combos.1 h
 exact ⟨h1,fun i hi=>by have:=h2 i hi;omega⟩
theorem ask_check (hs:ss.length≤4) (hr:r.length≤3) (h:(ask33 nd l ss r x).2.2=0):check33 nd l ss r x (ask33 nd l ss r x).2.1=true∧((ask33 nd l ss r x).2.1.acc=true ↔ (plan nd l ss (r ++ [x])).2=0):=by
 rcases ask_cases (nd:=nd) (l:=l) (ss:=ss) (r:=r) (x:=x) with ⟨e,h1,h2⟩ | ⟨⟨h1,h2,h3⟩,⟨h4,h5⟩ | ⟨h4,v,h5,h6⟩⟩
 ·rw [h2] at h;exact absurd h h1
 ·rw [h5]
  refine ⟨?_,by simp [h4]⟩
  unfold check33
  rw [if_neg (by rw [h2];simp;omega),if_pos rfl]
  have:=plan_checks h4
  simp [this]
 ·rw [h6]
  obtain ⟨n,-,-,hv,hb,-⟩:=small33_some h5
  obtain ⟨g1,g2⟩:=combo_in hv
  unfold blocks33 at hb
  have hb:=beq_iff_eq.1 hb
  have hl:=(pick_subl (x:=x) g1 g2).length_le
  rw [List.length_append,List.length_singleton] at hl
  obtain ⟨-,hrf⟩:=refute_refutes hs (by omega) hb
  refine ⟨?_,by simp [h4]⟩
  unfold check33
  rw [if_neg (by rw [h2];simp;omega),if_neg (by simp)]
  simp only [Bool.and_eq_true]
  exact ⟨asc33_iff.2 ⟨g1,fun i hi=>by have:=g2 i hi;omega⟩,rfl,hrf⟩
end
end K
namespace K
def many33 (m:Nat):Nat:=m % 2 + m / 2 % 2 + m / 4 % 2 + m / 8 % 2
theorem bits33:∀ n:Fin 5,∀ m:Fin 16,m.val < 2 ^ n.val→num (part (iota n.val) m.val)=m.val∧many33 m.val=(part (iota n.val) m.val).length:=by decide +kernel
theorem iota_len (n:Nat):(iota n).length=n:=by unfold iota;rw [List.length_map,List.length_range]
theorem part_iota {n m:Nat} (hn:n≤4) (hm:m < 2 ^ n):num (part (iota n) m)=m∧many33 m=(part (iota n) m).length:=by
 have h16:m < 16:=Nat.lt_of_lt_of_le hm (Nat.pow_le_pow_right (by decide) hn)
 exact bits33 ⟨n,by omega⟩ ⟨m,h16⟩ hm
theorem part_combo {n m:Nat}:part (iota n) m ∈ A.combos n (part (iota n) m).length 0:=by
 have hs:=part_sub (iota n) m
 exact A.mem_combos.2 ⟨rfl,(iota_sorted n).sublist hs,fun x hx=>by have:=mem_iota.1 (hs.subset hx);omega⟩
theorem mask33 {n:Nat} {v:List Int} (h1:v.Pairwise (· < ·)) (h2:∀ i ∈ v,0≤i∧i < (n:Int)):∃ m,m < 2 ^ n∧part (iota n) m=v:=by
 obtain ⟨m,g1,g2⟩:=sub_mask2 (A.sub_of_sorted h1 (iota_sorted n) fun x hx=>mem_iota.2 (h2 x hx))
 rw [iota_len] at g1
 exact ⟨m,g1,g2⟩
section
variable {nd : Int} {l : List Ro} {ss : List S} {r : List Q} {x : Q}
structure Refusal (nd:Int) (l:List Ro) (ss:List S) (r:List Q) (x:Q) (v:List Int):Prop where
 asc:v.Pairwise (· < ·)
 within:∀ i ∈ v,0≤i∧i < (r.length:Int)
 lt:num v < 2 ^ r.length
 size:many33 (num v)=v.length
 named:(plan nd l ss (pick33 r (part (iota r.length) (num v)) x)).2=4
 less:∀ m,m < 2 ^ r.length→many33 m < many33 (num v)→(plan nd l ss (pick33 r (part (iota r.length) m) x)).2=0
theorem refusal (hr:r.length≤4) (h0:(ask33 nd l ss r x).2.2=0) (h1:(ask33 nd l ss r x).2.1.acc=false):Refusal nd l ss r x (ask33 nd l ss r x).2.1.blk:=by
 rcases ask_cases (nd:=nd) (l:=l) (ss:=ss) (r:=r) (x:=x) with ⟨e,g1,g2⟩ | ⟨⟨g1,g2,g3⟩,⟨g4,g5⟩ | ⟨g4,v,g5,g6⟩⟩
 ·rw [g2] at h0;exact absurd h0 g1
 ·rw [g5] at h1;cases h1
 rw [g6]
 show Refusal nd l ss r x v
 obtain ⟨n,-,-,hv,hb,hless⟩:=small33_some g5
 obtain ⟨p1,p2⟩:=combo_in hv
 obtain ⟨m,hm,rfl⟩:=mask33 p1 p2
 obtain ⟨q1,q2⟩:=part_iota hr hm
 have hlen:(part (iota r.length) m).length=n:=(A.mem_combos.1 hv).1
 have hpc:=plan_4 g4
 refine ⟨p1,p2,by rw [q1];exact hm,by rw [q1];exact q2,by rw [q1];exact beq_iff_eq.1 hb,fun m' hm' hlt=>?_⟩
 obtain ⟨q3,q4⟩:=part_iota hr hm'
 rw [q1,q2,q4,hlen] at hlt
 have h9:=hless _ (Nat.zero_le _) hlt _ part_combo
 unfold blocks33 at h9
 have hsub:=pick_subl (x:=x) ((iota_sorted _).sublist (part_sub (iota r.length) m')) (fun i hi=>by have:=mem_iota.1 ((part_sub (iota r.length) m').subset hi);omega)
 rcases plan_42 (pcheck_sub hpc.1 hsub) with h8 | h8
 ·exact h8
 ·rw [h8] at h9;cases h9
theorem ask_book (h:(ask33 nd l ss r x).2.2=0):(ask33 nd l ss r x).1=some (if (ask33 nd l ss r x).2.1.acc=true then r ++ [x] else r)∧((ask33 nd l ss r x).2.1.acc=true→checks nd l ss (r ++ [x]) (ask33 nd l ss r x).2.1.tours=0):=by
 rcases ask_cases (nd:=nd) (l:=l) (ss:=ss) (r:=r) (x:=x) with ⟨e,g1,g2⟩ | ⟨⟨g1,g2,g3⟩,⟨g4,g5⟩ | ⟨g4,v,g5,g6⟩⟩
 ·rw [g2] at h;exact absurd h g1
 ·rw [g5]
  exact ⟨rfl,fun _=>plan_checks g4⟩
 ·rw [g6]
  exact ⟨rfl,fun h=>by cases h⟩
end
end K
namespace K
variable {nd : Int} {l : List Ro} {ss : List S} {r : List Q} {x : Q} {v : List Int}
theorem refusal_named (hr:r.length≤4) (h:Refusal nd l ss r x v):(plan nd l ss (pick33 r v x)).2=4:=by
 obtain ⟨m,hm,hv⟩:=mask33 h.asc h.within
 obtain ⟨q1,-⟩:=part_iota hr hm
 have h1:=h.named
 rw [←hv,q1] at h1
 rwa [←hv]
theorem refusal_less (hr:r.length≤4) (h:Refusal nd l ss r x v) {k:Nat} (hk:k < v.length):(plan nd l ss (pick33 r (v.take k ++ v.drop (k + 1)) x)).2=0:=by
 have hsub:(v.take k ++ v.drop (k + 1)).Sublist v:=by
  have h1:=(List.Sublist.refl (v.take k)).append (List.drop_sublist_drop_left v (Nat.le_succ k))
  rwa [List.take_append_drop] at h1
 obtain ⟨m,hm,hv⟩:=mask33 (h.asc.sublist hsub) (fun i hi=>h.within i (hsub.subset hi))
 obtain ⟨q1,q2⟩:=part_iota hr hm
 have h1:=h.less m hm (by
  rw [h.size,q2,hv,List.length_append,List.length_take,List.length_drop]
  omega)
 rwa [hv] at h1
end K
theorem bel_alloc0 (w:World) (o:Obj):Below w.heap.size w (w.alloc o):=(Below.refl _ _).alloc (Nat.le_refl _) _
namespace K
def less61 (v:List Int) (dr:Int):Nat→List Int
 | 0=>[]
 | k + 1=>if (k:Int)=dr then less61 v dr k else less61 v dr k ++ (v[k]?).toList
theorem less61_len (v:List Int) (dr:Int):∀ k,(less61 v dr k).length≤k
 | 0=>Nat.le_refl _
 | k + 1=>by
  have h:=less61_len v dr k
  unfold less61
  split
  ·omega
  ·rw [List.length_append]
   have:(v[k]?).toList.length≤1:=by cases v[k]? <;> simp
   omega
theorem less61_mem {v:List Int} {dr:Int}:∀ {k:Nat} {i:Int},i ∈ less61 v dr k→i ∈ v
 | 0,i,h=>by cases h
 | k + 1,i,h=>by
  unfold less61 at h
  split at h
  ·exact less61_mem h
  ·rcases List.mem_append.1 h with h | h
   ·exact less61_mem h
   ·cases hv:v[k]? with
    | none=>rw [hv] at h;cases h
    | some y =>
     rw [hv] at h
     rw [show i=y from List.mem_singleton.1 h]
     exact List.mem_of_getElem? hv
theorem less61_neg (v:List Int):∀ k,less61 v (-1) k=v.take k
 | 0=>(List.take_zero).symm
 | k + 1=>by
  rw [less61,if_neg (by omega),less61_neg v k,List.take_add_one]
theorem less61_before (v:List Int) (j:Nat):∀ k,k≤j→less61 v (j:Int) k=v.take k
 | 0,_=>(List.take_zero).symm
 | k + 1,h=>by
  rw [less61,if_neg (by omega),less61_before v j k (by omega),List.take_add_one]
theorem less61_all (v:List Int) (j:Nat):∀ n,less61 v (j:Int) (j + 1 + n)=v.take j ++ (v.drop (j + 1)).take n
 | 0=>by
  rw [Nat.add_zero,less61,if_pos rfl,less61_before v j j (Nat.le_refl _),List.take_zero,List.append_nil]
 | n + 1=>by
  rw [show j + 1 + (n + 1)=(j + 1 + n) + 1 from rfl,less61,if_neg (by omega),less61_all v j n,List.take_add_one,List.getElem?_drop,List.append_assoc]
theorem less61_at {v:List Int} {j:Nat} (h:j < v.length):less61 v (j:Int) v.length=v.take j ++ v.drop (j + 1):=by
 have h1:=less61_all v j (v.length - (j + 1))
 rw [show j + 1 + (v.length - (j + 1))=v.length by omega] at h1
 rw [h1]
 congr 1
 exact List.take_of_length_le (by rw [List.length_drop];exact Nat.le_refl _)
end K
set_option maxRecDepth 100000 in
set_option maxHeartbeats 16000000 in
theorem part61_any (x:Cs) (VA:Option Addr) (vn vc:Nat) (v:List Int) (dr:Int) (q:Q) (w:World) (hQ:Reqs w x.B x.m x.r) (hX:Wins w q.A q.n q.l) (hV:Ints w VA vn v) (hv:∀ i ∈ v,0≤i∧i < (x.r.length:Int)) (hvn:vn≤1000) :
  Calls Tryz.prog 61 #[.slice x.B x.m x.d,.slice VA vn vc,.int .i64 dr,.agg #[.int .i64 q.node,.int .i64 q.room,.int .i64 q.kilos,.int .i64 q.service,.int .i64 q.frm,.int .i64 q.by_,.slice q.A q.n q.c]] w fun e w'=>(∃ A n k,e=.returned (.slice A n k)∧Reqs w' A n (K.pick33 x.r (K.less61 v dr vn) q)∧n≤vn + 1)∧Below w.heap.size w w':=by
 obtain ⟨w1,hw1⟩:∃ w1:World,w1=w.alloc (.cells #[.int .i64 q.node,.int .i64 q.room,.int .i64 q.kilos,.int .i64 q.service,.int .i64 q.frm,.int .i64 q.by_,.slice q.A q.n q.c] 47):=⟨_,rfl⟩
 have b1:Below w.heap.size w w1:=by rw [hw1];exact bel_alloc0 _ _
 obtain ⟨g,hg⟩:∃ g,g=w.heap.size:=⟨_,rfl⟩
 have hB1:QBlk w1 g q:=by rw [hw1,hg];exact QBlk.new _ _
 obtain ⟨w2,hw2⟩:∃ w2:World,w2=w1.alloc (.cells #[] 47):=⟨_,rfl⟩
 have b2:Below w1.heap.size w1 w2:=by rw [hw2];exact bel_alloc0 _ _
 have z1:w1.heap.size=g + 1:=by rw [hw1,hg];exact World.size_alloc _ _
 have hown0:w2.ownsRow w1.heap.size 47 7 (.slice (some ⟨g + 1,0,none⟩) 0 0) ((K.less61 v dr 0).map (K.req x.r)).length (((K.less61 v dr 0).map (K.req x.r)).flatMap Q.cells):=by
  rw [hw2,←z1]
  exact own_lit (heap_alloc_new w1 _) (Nat.le_refl _)
 have HRN:=Lib.hid hQ.1
 have HVN:=Lib.hid hV.1
 go_enter Tryz.func61,Tryz.ntmps61
 go_wp2_with fail
 rw [←hw1,←hg,←hw2]
 clear hw1 hg hw2 z1
 go_loopw [9,10] (fun v9 v10 wr=>∃ k:Nat,v10=.int .i64 k∧k≤vn∧wr.ownsRow w1.heap.size 47 7 v9 ((K.less61 v dr k).map (K.req x.r)).length (((K.less61 v dr k).map (K.req x.r)).flatMap Q.cells)∧Below w1.heap.size w1 wr) (fun _ v10 _=>vn - (intOf v10).toNat)
 case atStart=>exact ⟨0,rfl,Nat.zero_le _,hown0,b2⟩
 case round =>
  clear hown0
  obtain ⟨k,rfl,hk,hown,hbr⟩:=hrel
  have hLl:((K.less61 v dr k).map (K.req x.r)).length≤k:=by rw [List.length_map];exact K.less61_len v dr k
  obtain ⟨L,hL⟩:∃ L,L=(K.less61 v dr k).map (K.req x.r):=⟨_,rfl⟩
  rw [←hL] at hown hLl
  have HL:=Lib.hid hL
  clear hL
  by_cases hlt:k < vn
  ·have k0:(0:Int)≤(k:Int):=by omega
   have k1:(k:Int) < (vn:Int):=by omega
   have k1d:decide ((k:Int) < (vn:Int))=true:=decide_eq_true k1
   have k1e:decide (k < vn)=true:=decide_eq_true hlt
   have k2:k + 1≤vn:=hlt
   have hL6:L.length≤1000000:=by omega
   by_cases hkd:(k:Int)=dr
   ·have HE:=Lib.hid (show (K.less61 v dr (k + 1)).map (K.req x.r)=L by rw [K.less61,if_pos hkd,HL.out])
    have e1:((k:Int) != dr)=false:=by simp [bne,hkd]
    have e2:decide ((k:Int)=dr)=true:=decide_eq_true hkd
    clear hkd
    go_wp2_with fail
    go_roundw
    case rel=>(go_light;exact ⟨k + 1,by go_num,k2,by rw [HE.out];exact hown,hbr⟩)
    case measure=>(go_light;simp [intOf];omega)
   ·obtain ⟨adv,z,hA,hz,cz⟩:=(hV.below (bel b1 hbr)).at_ hlt
    obtain ⟨hz0,hz1⟩:=hv z (List.mem_of_getElem? hz)
    obtain ⟨zn,rfl⟩:∃ zn:Nat,z=(zn:Int):=⟨z.toNat,by omega⟩
    have hzm:zn < x.m:=by have:=HRN.out;omega
    obtain ⟨adq,y,hB,hy,-,c0,c1,c2,c3,c4,c5,c6⟩:=(hQ.below (bel b1 hbr)).at_ hzm
    have HE:=Lib.hid (show (K.less61 v dr (k + 1)).map (K.req x.r)=L ++ [y] by
     rw [K.less61,if_neg hkd,List.map_append,hz,HL.out]
     show _ ++ [K.req x.r (zn:Int)] = _
     rw [K.req_at hy])
    have e1:((k:Int) != dr)=true:=by simp [bne,hkd]
    have e2:decide ((k:Int)=dr)=false:=decide_eq_false hkd
    have e3:decide ((0:Int)≤(zn:Int))=true:=by simp
    have e4:decide ((zn:Int) < (x.m:Int))=true:=by simp;omega
    have e5:decide (zn < x.m)=true:=by simp;omega
    have e6:(0:Int)≤(zn:Int):=by omega
    have e7:(zn:Int) < (x.m:Int):=by omega
    obtain ⟨g9,hg9⟩:∃ g9,g9=wr.heap.size:=⟨_,rfl⟩
    obtain ⟨w5,hw5⟩:∃ w5:World,w5=wr.alloc (.cells #[.int .i64 y.node,.int .i64 y.room,.int .i64 y.kilos,.int .i64 y.service,.int .i64 y.frm,.int .i64 y.by_,.slice y.A y.n y.c] 47):=⟨_,rfl⟩
    have b5:Below wr.heap.size wr w5:=by rw [hw5];exact bel_alloc0 _ _
    have hB5:w5.heap[g9]? = some (.cells y.cells.toArray 47 (0,0)):=by rw [hw5,hg9];exact heap_alloc_new _ _
    have hown5:=own_below hown b5
    have hbs:w1.heap.size≤w5.heap.size:=Nat.le_trans hbr.size b5.size
    have hb5:=bel hbr b5
    clear hy hkd hz0 hz1 hz
    rw [hB,hA]
    go_wp2_with (first
     | (at_builtin;rw [←hw5,←hg9];refine app_req rfl _ _ rfl w1.heap.size _ L.length L rfl hown5 g9 y rfl hB5 hL6 hbs ?_;intro v6 w6 hown6 hgrow6 _)
     | fail)
    have hb6:Below w1.heap.size w1 w6:=below_own2 hb5 hgrow6 (fun g e=>(hown5.lt g e).1)
    go_roundw
    case rel=>(go_light;exact ⟨k + 1,by go_num,k2,by rw [HE.out,List.length_append];exact hown6,hb6⟩)
    case measure=>(go_light;simp [intOf];omega)
  ·have hd:decide ((k:Int) < (vn:Int))=false:=by simp;omega
   have hd2:decide (k < vn)=false:=by simp;omega
   have hkm:k=vn:=by omega
   have HE:=Lib.hid (show (K.less61 v dr vn).map (K.req x.r)=L by rw [HL.out,hkm])
   have HM:=Lib.hid (show ∀ p ∈ L,p ∈ x.r by
    rw [←HE.out]
    intro p hp
    obtain ⟨i,hi,rfl⟩:=List.mem_map.1 hp
    obtain ⟨i0,i1⟩:=hv i (K.less61_mem hi)
    obtain ⟨zn,rfl⟩:∃ zn:Nat,i=(zn:Int):=⟨i.toNat,by omega⟩
    have hz:x.r[zn]? = some (x.r[zn]'(by omega)):=List.getElem?_eq_getElem (by omega)
    rw [K.req_at hz]
    exact List.mem_of_getElem? hz)
   have hL6:L.length≤1000000:=by omega
   have HL4:=Lib.hid (show L.length≤vn by omega)
   have hbw:=bel b1 hbr
   have hQb:=hB1.below hbr
   obtain ⟨c0,c1,c2,c3,c4,c5,c6⟩:=hQb.cells
   obtain ⟨g9,hg9⟩:∃ g9,g9=wr.heap.size:=⟨_,rfl⟩
   obtain ⟨w5,hw5⟩:∃ w5:World,w5=wr.alloc (.cells #[.int .i64 q.node,.int .i64 q.room,.int .i64 q.kilos,.int .i64 q.service,.int .i64 q.frm,.int .i64 q.by_,.slice q.A q.n q.c] 47):=⟨_,rfl⟩
   have b5:Below wr.heap.size wr w5:=by rw [hw5];exact bel_alloc0 _ _
   have hB5:w5.heap[g9]? = some (.cells q.cells.toArray 47 (0,0)):=by rw [hw5,hg9];exact heap_alloc_new _ _
   have hown5:=own_below hown b5
   have hbs:w1.heap.size≤w5.heap.size:=Nat.le_trans hbr.size b5.size
   have hb5:=bel hbr b5
   clear hkm hlt hk hown
   go_wp2_with (first
    | (at_builtin;rw [←hw5,←hg9];refine app_req rfl _ _ rfl w1.heap.size _ L.length L rfl hown5 g9 q rfl hB5 hL6 hbs ?_;intro v6 w6 hown6 hgrow6 _)
    | fail)
   have hb6:Below w1.heap.size w1 w6:=below_own2 hb5 hgrow6 (fun g e=>(hown5.lt g e).1)
   have hb66:=bel b1 hb6
   obtain ⟨A6,c6',rfl,hRd,-⟩:=own_form hown6
   go_ret
   refine ⟨⟨A6,L.length + 1,c6',rfl,?_,by have:=HL4.out;omega⟩,hb66⟩
   unfold K.pick33
   rw [HE.out]
   refine ⟨by rw [List.length_append];rfl,by rw [reqCells_flat];exact hRd,fun p hp=>?_⟩
   rcases List.mem_append.1 hp with hp | hp
   ·exact (hQ.2.2 p (HM.out p hp)).below hb66
   ·rw [List.mem_singleton.1 hp];exact hX.below hb66
end Go.Proofs.YtippdjmpkafifaaGreat
