import Derived.Test.YtippdjmpkafifaaGreatCP12
namespace Go.Proofs.YtippdjmpkafifaaGreat
open Go.RowKit
namespace A
theorem combos_few_all:∀ b:Fin 7,∀ n:Fin 7,∀ f:Fin 8,(combos b.val n.val f.val).length≤64:=by decide +kernel
theorem combos_few {b n f:Nat} (hb:b≤6) (hn:n≤6) (hf:f≤7):(combos b n f).length≤64:=combos_few_all ⟨b,by omega⟩ ⟨n,by omega⟩ ⟨f,by omega⟩
theorem range_snoc (f k:Nat):List.range' f (k + 1)=List.range' f k ++ [f + k]:=by rw [List.range'_concat];simp
end A
def NewL (B:Nat) (L:List Sh):Prop:=∀ s ∈ L,0 < s.n→∀ ad,s.A=some ad→B≤ad.block
def RetSets (w w':World) (L:List (List Int)) (e:Ending):Prop:=(∃ E m c l,e=.returned (.slice E m c)∧Shs w' E m l∧m≤c∧l.map Sh.l=L∧(∀ ad,E=some ad→w.heap.size≤ad.block)∧NewL w.heap.size l)∧Below w.heap.size w w'
def RowOk (w:World) (v:Value) (L:List Sh):Prop:=∀ s ∈ L,(Ints w s.A s.n s.l∧s.n≤s.c∧(s.A=none→s.n=0∧s.c=0))∧(0 < s.n→∀ ad,s.A=some ad→v.ownBlock ≠ some ad.block)
theorem RowOk.below {w w':World} {v:Value} {L:List Sh} (h:RowOk w v L) (hb:Below w.heap.size w w'):RowOk w' v L:=fun s hs=>⟨⟨(h s hs).1.1.below hb,(h s hs).1.2⟩,(h s hs).2⟩
theorem own_shs {w:World} {base n:Nat} {v:Value} {L:List Sh} (h:w.ownsRow base 48 1 v n (L.map Sh.val)) (hn:n=L.length) (ho:RowOk w v L):∃ E c,v=.slice E n c∧Shs w E n L∧n≤c∧∀ ad,E=some ad→base≤ad.block:=by
 have hnw:∀ E c,v=.slice E n c→∀ ad,E=some ad→base≤ad.block:=fun E c e ad e2=>by
  obtain ⟨-,-,-,-,h3⟩:=own_form h
  exact (h3 ad.block (by rw [e,e2];rfl)).1
 rcases Nat.eq_zero_or_pos n with h0 | h0
 ·obtain ⟨A,c,e,hR,-⟩:=own_form h
  have hc:n≤c:=by omega
  have hL:L=[]:=List.length_eq_zero_iff.1 (by omega)
  exact ⟨A,c,e,⟨⟨hn,by rw [hL];simp [h0],fun h=>absurd h (by omega)⟩,fun s hs=>(ho s hs).1⟩,hc,hnw _ _ e⟩
 ·obtain ⟨g,cap,cur,e,-,hc,hr⟩:=row_own h h0
  exact ⟨_,cap,e,hr.shs fun s hs=>(ho s hs).1,hc,hnw _ _ e⟩
theorem app_shs {ops:Array Oper} {rest:List Oper} {o:Oper} {a:Act} {Q:Exit→Act→World→Prop} {w:World} (hgd:o.guard=none) (s x:Operand)
  (ho:o.op=.call { callee:=.builtin .append,args:=#[s,x],argTypes:=#[97,97] })
  (base:Nat) (v:Value) (n:Nat) (L:List Sh) (hs:a.eval s=v) (hown:w.ownsRow base 48 1 v n (L.map Sh.val)) (g:Nat) (y:Sh) (hx:a.eval x=.slice (some ⟨g,0,none⟩) 1 1)
  (hg:w.heap[g]? = some (.cells #[.slice y.A y.n y.c] 48 (0,0))) (hn:n≤1000000) (hbase:base≤w.heap.size)
  (h:∀ v' w',w'.ownsRow base 48 1 v' (n + 1) ((L ++ [y]).map Sh.val)→w.grownBy w' v.ownBlock→(v'.ownBlock=v.ownBlock∨v'.ownBlock=some w.heap.size)→wpList Tryz.prog ops Q rest (a.put o.dst v') w') :
  wpList Tryz.prog ops Q (o :: rest) a w:=by
 obtain ⟨i0,hi,hz0,hz1,hz2⟩:=info_parts Tryz.info48
 refine wpList_append_own_at w hgd s x 97 ho base 48 i0 (.slice none 0 0) 1 24 Tryz.underlying97 hi hz0 hz1 hz2 rfl (by decide) v n (L.map Sh.val) hs hown ⟨g,0,none⟩ 1 1 [y.val] hx rfl ?_ ?_ ?_ ?_ hbase ?_
 ·intro j u hu
  rw [add_zero_block]
  exact blk_cell hg j u (by simpa [Sh.val] using hu)
 ·intro u hu
  simp at hu
  subst hu;rfl
 ·simp only [maxLen];omega
 ·omega
 ·intro v' w' h2 h3 _ h5
  exact h v' w' (by rw [List.map_append];exact h2) h3 h5
theorem RowOk.grow {w w':World} {v v':Value} {L:List Sh} (h:RowOk w v L) (hg:w.grownBy w' v.ownBlock) (ha:v'.ownBlock=v.ownBlock∨v'.ownBlock=some w.heap.size):RowOk w' v' L:=fun s hs=>by
 obtain ⟨⟨h1,h2⟩,h3⟩:=h s hs
 refine ⟨⟨h1.grow hg fun h0 ad e e2=>h3 h0 ad e e2.symm,h2⟩,fun h0 ad e e2=>?_⟩
 rcases ha with e3 | e3
 ·rw [e3] at e2;exact h3 h0 ad e e2
 ·rw [e3] at e2
  injection e2 with e2
  have:=h1.lt_of h0 e
  omega
theorem RowOk.snoc {w:World} {v:Value} {L:List Sh} (h:RowOk w v L) {y:Sh} (h1:Ints w y.A y.n y.l∧y.n≤y.c∧(y.A=none→y.n=0∧y.c=0)) (h2:0 < y.n→∀ ad,y.A=some ad→v.ownBlock ≠ some ad.block):RowOk w v (L ++ [y]):=fun s hs=>by
 rcases List.mem_append.1 hs with hs | hs
 ·exact h s hs
 ·rw [List.mem_singleton] at hs
  rw [hs]
  exact ⟨h1,h2⟩
theorem Shs.grown {w w':World} {E:Option Addr} {n:Nat} {l:List Sh} {r:Option Nat} (h:Shs w E n l) (hg:w.grownBy w' r) (hE:0 < n→∀ ad,E=some ad→some ad.block ≠ r) (hs:∀ s ∈ l,0 < s.n→∀ ad,s.A=some ad→some ad.block ≠ r):Shs w' E n l:=by
 refine ⟨⟨h.1.1,h.1.2.1,fun h0=>?_⟩,fun s hm=>⟨(h.2 s hm).1.grow hg (hs s hm),(h.2 s hm).2⟩⟩
 obtain ⟨ad,e,hc⟩:=h.1.2.2 h0
 refine ⟨ad,e,fun j u hu=>?_⟩
 have c:=hc j u hu
 exact (World.cell?_of_block (hg.block _ (cell_lt c) (by rw [add_block];exact hE h0 ad e))).trans c
theorem NewL.mono {B C:Nat} {L:List Sh} (h:NewL B L) (hc:C≤B):NewL C L:=fun s hs h0 ad e=>Nat.le_trans hc (h s hs h0 ad e)
theorem NewL.snoc {B:Nat} {L:List Sh} {y:Sh} (h:NewL B L) (hy:0 < y.n→∀ ad,y.A=some ad→B≤ad.block):NewL B (L ++ [y]):=fun s hs=>by
 rcases List.mem_append.1 hs with hs | hs
 ·exact h s hs
 ·rw [List.mem_singleton] at hs
  rw [hs];exact hy
set_option maxRecDepth 100000 in
theorem wp_pre {ops:Array Oper} {rest:List Oper} {o:Oper} {a:Act} {w w2:World} {Q:Exit→Act→World→Prop} (hgd:o.guard=none) (s x:Operand)
  (ho:o.op=.call { callee:=.builtin .append,args:=#[s,x],argTypes:=#[48,48] })
  (g:Nat) (i:Int) (hs:a.eval s=.slice (some ⟨g,0,none⟩) 1 1) (hg:w.heap[g]? = some (.cells #[.int .i64 i] 3 (0,0))) (hb2:Below w2.heap.size w2 w) (hbg:w2.heap.size≤g)
  {A:Option Addr} {m c:Nat} {l:List Int} (hx:a.eval x=.slice A m c) (hI:Ints w2 A m l) (hm:m≤1000000)
  (h:∀ B c w',Ints w' (some B) (m + 1) (i :: l)→m + 1≤c→Below w2.heap.size w2 w'→w2.heap.size≤B.block→wpList Tryz.prog ops Q rest (a.put o.dst (.slice (some B) (m + 1) c)) w') :
  wpList Tryz.prog ops Q (o :: rest) a w:=by
 obtain ⟨i0,hi,hz0,hz1,hz2⟩:=info_parts Tryz.info3
 have hown:w.ownsRow w2.heap.size 3 1 (.slice (some ⟨g,0,none⟩) 1 1) 1 [.int .i64 i]:=⟨rfl,.inr ⟨g,1,_,rfl,hbg,hg,Nat.le_refl _,by simp [maxLen],rfl,rfl⟩⟩
 refine wp_append_rd hgd s x 48 ho w2.heap.size 3 i0 (.int .i64 0) 1 8 Tryz.underlying48 hi hz0 hz1 hz2 rfl (by decide) _ 1 [.int .i64 i] hs hown A m c (intCells l) hx (hI.below hb2).2 (fun u hu=>?_) (by simp only [maxLen];omega) (by omega) hb2.size fun v' w' h2 h3 h4=>?_
 ·obtain ⟨z,-,rfl⟩:=List.mem_map.1 hu
  rfl
 ·have e:1 + m=m + 1:=by omega
  rw [e] at h2
  have h2':w'.ownsRow w2.heap.size 3 1 v' (m + 1) (intCells (i :: l)):=h2
  obtain ⟨-,⟨-,e0⟩ | ⟨g',cap,cur,rfl,hb',hh,hnc,-⟩⟩:=h2
  ·omega
  ·obtain ⟨A',c',e',hI'⟩:=own_ints h2' (by rw [List.length_cons,←hI.1])
   injection e' with e1 e2 e3
   subst e1 e3
   exact h _ _ w' hI' hnc (below_own hb2 (Nat.le_refl _) h3 fun g' e=>(by have e:some g=some g':=e;injection e with e;omega)) hb'
set_option maxRecDepth 100000 in
set_option maxHeartbeats 16000000 in
theorem sets35_any (b:Nat) (hb6:b≤6):∀ (n f:Nat) (w:World),n≤6→f≤7→Calls Tryz.prog 74 #[.int .i64 f,.int .i64 b,.int .i64 n] w fun e w'=>RetSets w w' (A.combos b n f) e:=by
 intro n
 induction n with
 | zero =>
  intro f w _ hf
  have hd:decide ((0:Int)=0)=true:=rfl
  go_enter Tryz.func74,Tryz.ntmps74
  go_wp2_with fail
  go_ret
  have hr:RowAt (w.alloc (.cells #[.slice none 0 0] 48)) w.heap.size 1 #[.slice none 0 0] [⟨none,0,0,[]⟩]:=⟨heap_alloc_new _ _,rfl,fun k s hk=>by
   cases k with
   | zero=>simp at hk;subst hk;rfl
   | succ k=>simp at hk⟩
  exact ⟨⟨_,1,1,[⟨none,0,0,[]⟩],rfl,hr.shs fun s hs=>by rw [List.mem_singleton] at hs;rw [hs];exact ⟨ints_nil _,Nat.le_refl _,fun _=>⟨rfl,rfl⟩⟩,Nat.le_refl _,rfl,fun ad e=>(by injection e with e;rw [←e];exact Nat.le_refl _),fun s hs h0=>(by rw [List.mem_singleton] at hs;rw [hs] at h0;exact absurd h0 (by simp))⟩,(Below.refl _ _).alloc (Nat.le_refl _) _⟩
 | succ n ih =>
  intro f w hn hf
  have hd:decide (((n + 1:Nat):Int)=0)=false:=by simp;omega
  have hd2:(((n + 1:Nat):Int) == 0)=false:=by simp;omega
  obtain ⟨N,hNn⟩:∃ N,N=n + 1:=⟨_,rfl⟩
  rw [←hNn] at hd hd2 ⊢
  have kN:IntKind.i64.wrap ((N:Int) - 1)=(n:Int):=by rw [IntWalk.i64_in _ (by omega)];omega
  have HC:=Lib.hid (show A.combos b N f=(List.range' f (b - f)).flatMap fun i=>(A.combos b n (i + 1)).map ((i:Int) :: ·) by rw [hNn];rfl)
  have hN0:((N:Int)=0)=False:=by simp;omega
  clear hNn
  go_enter Tryz.func74,Tryz.ntmps74
  go_wp2_with fail
  clear hd hd2 hN0
  go_loopw [7,8] (fun v7 v8 wr=>∃ (i:Nat) (L:List Sh),v8=.int .i64 i∧f≤i∧(i≤b∨i=f)∧wr.ownsRow w.heap.size 48 1 v7 L.length (L.map Sh.val)∧RowOk wr v7 L∧NewL w.heap.size L∧Below w.heap.size w wr∧L.length≤64 * (i - f)∧Hid (L.map Sh.l=(List.range' f (i - f)).flatMap fun i=>(A.combos b n (i + 1)).map ((i:Int) :: ·))) (fun _ v8 _=>b - (intOf v8).toNat)
  case atStart=>exact ⟨f,[],rfl,Nat.le_refl _,.inr rfl,World.ownsRow_nil _ _ _ _,fun s hs=>(by cases hs),fun s hs=>(by cases hs),Below.refl _ _,Nat.zero_le _,by show _=_;rw [Nat.sub_self];rfl⟩
  case round =>
   obtain ⟨i,L,rfl,hfi,hib,hown,hro,hnw,hbr,hll,hcl⟩:=hrel
   by_cases hlt:i < b
   ·obtain ⟨i1,hi1⟩:∃ i1,i1=i + 1:=⟨_,rfl⟩
    have ki:IntKind.i64.wrap ((i:Int) + 1)=(i1:Int):=by rw [IntWalk.i64_in _ (by omega)];omega
    have CS:=ih i1 wr (by omega) (by omega)
    have HI1:=Lib.hid hi1
    have hi7:i1≤6:=by omega
    obtain ⟨D,hD⟩:∃ D,D=A.combos b n i1:=⟨_,rfl⟩
    have hDl:D.length≤64:=by rw [hD];exact A.combos_few hb6 (by omega) (by omega)
    rw [←hD] at CS
    have HD:=Lib.hid hD
    clear hi1 hD
    go_wp2_with fail
    refine CS.mono ?_
    rintro e w2 ⟨⟨E,m,c,l,rfl,hSl,hmc,hlD,hEn,hln⟩,b2⟩
    have hml:m≤64:=by rw [hSl.1.1,←List.length_map (f:=Sh.l),hlD];exact hDl
    have hl6:∀ s ∈ l,s.n≤6:=fun s hs=>by
     rw [(hSl.2 s hs).1.1]
     have h9:s.l ∈ A.combos b n i1:=by rw [←HD.out,←hlD];exact List.mem_map_of_mem hs
     have:=(A.mem_combos.1 h9).1
     omega
    have FE:0 < m→∀ ad,E=some ad→wr.heap.size≤ad.block∧ad.block < w2.heap.size:=fun h0 ad e=>by
     obtain ⟨ad',s,e',-,-,hc⟩:=hSl.at_ h0
     rw [e] at e'
     injection e' with e'
     exact ⟨hEn ad e,by rw [e'];exact cell_lt hc⟩
    have FL:∀ s ∈ l,0 < s.n→∀ ad,s.A=some ad→wr.heap.size≤ad.block∧ad.block < w2.heap.size:=fun s hs h0 ad e=>⟨hln s hs h0 ad e,(hSl.2 s hs).1.lt_of h0 e⟩
    have hob:∀ g,u7.ownBlock=some g→g < wr.heap.size:=fun g e=>(own_in hown g e).2
    have hown2:=own_below hown b2
    have hro2:=hro.below b2
    have hb2:=bel hbr b2
    have hwr2:=b2.size
    clear CS hown hro hbr b2 hEn hln
    go_wp2_with fail
    obtain ⟨W2,hW2⟩:∃ z,z=w2.heap.size:=⟨_,rfl⟩
    obtain ⟨WQ,hWQ⟩:∃ z,z=wr.heap.size:=⟨_,rfl⟩
    rw [←hW2,←hWQ] at FE FL hwr2
    rw [←hWQ] at hob
    go_loopw [7,27] (fun v7 v27 wi=>∃ (j:Nat) (L':List Sh),v27=.int .i64 j∧j≤m∧wi.ownsRow w.heap.size 48 1 v7 L'.length (L'.map Sh.val)∧RowOk wi v7 L'∧NewL w.heap.size L'∧Below w.heap.size w wi∧W2≤wi.heap.size∧L'.length=L.length + j∧Shs wi E m l∧(∀ g,v7.ownBlock=some g→g < WQ∨W2≤g)∧Hid (L'.map Sh.l=L.map Sh.l ++ (l.take j).map fun s=>(i:Int) :: s.l)) (fun _ v27 _=>m - (intOf v27).toNat)
    case atStart=>exact ⟨0,L,rfl,Nat.zero_le _,hown2,hro2,hnw,hb2,Nat.le_of_eq hW2,rfl,hSl,fun g e=>.inl (hob g e),by show _=_;rw [List.take_zero];simp⟩
    case round =>
     obtain ⟨j,L',rfl,hj,hownI,hroI,hnwI,hbI,hWI,hlI,hSI,hobI,hcI⟩:=hrel
     by_cases hjm:j < m
     ·obtain ⟨ad,s,rfl,hg,⟨hI,hsc,hs0⟩,hc⟩:=hSI.at_ hjm
      have j0:decide ((j:Int) < (m:Int))=true:=by simp;omega
      have js:IntKind.i64.wrap ((j:Int) + 1)=((j + 1:Nat):Int):=by rw [IntWalk.i64_in _ (by omega)];omega
      have hsm:=List.mem_of_getElem? hg
      have h6:=hl6 s hsm
      have HG:=Lib.hid hg
      have H6:=Lib.hid h6
      have hn9:s.n≤1000000:=by omega
      have hn8:L'.length≤1000000:=by omega
      have bA:Below wr.heap.size wr (wr.alloc (.cells #[.int .i64 i] 3)):=(Below.refl _ _).alloc (Nat.le_refl _) _
      have h7:∀ g,u7.ownBlock=some g→w.heap.size≤g∧g < wr.heap.size:=fun g e=>own_in hownI g e
      have HLI:=Lib.hid hlI
      clear hg h6 hlI
      go_wp2_with (first
       | (at_builtin;refine wp_pre rfl (.tmp 33) (.tmp 34) rfl wr.heap.size (i:Int) rfl (heap_alloc_new wr _) bA (Nat.le_refl _) rfl hI hn9 ?_;intro B c9 w9 hI9 hc9 hb9 hB9;have bx9:=bel hb9 ((Below.refl _ _).alloc (Nat.le_refl _) (.cells #[.slice (some B) (s.n + 1) c9] 48));have bs9:=(bel hbI bx9).size)
       | (at_builtin;refine app_shs rfl (.tmp 31) (.tmp 36) rfl w.heap.size u7 L'.length L' rfl (own_below hownI bx9) w9.heap.size ⟨some B,s.n + 1,c9,(i:Int) :: s.l⟩ rfl (heap_alloc_new w9 _) hn8 bs9 ?_;intro v' w10 hown10 hgrow10 hat10))
      have hBl:B.block < w9.heap.size:=hI9.lt_of (by omega) rfl
      have h9s:w9.heap.size≤(w9.alloc (.cells #[.slice (some B) (s.n + 1) c9] 48)).heap.size:=((Below.refl w9.heap.size w9).alloc (Nat.le_refl _) _).size
      have h9t:=hb9.size
      have h9u:=hgrow10.size
      go_roundw
      case rel =>
       refine ⟨j + 1,L' ++ [⟨some B,s.n + 1,c9,(i:Int) :: s.l⟩],by go_num,by omega,by rw [List.length_append];exact hown10,((hroI.below bx9).grow hgrow10 hat10).snoc ⟨(hI9.below ((Below.refl _ _).alloc (Nat.le_refl _) _)).grow hgrow10 fun _ ad e e2=>?_,hc9,fun e=>by cases e⟩ (fun _ ad e e2=>?_),hnwI.snoc (fun _ ad e=>?_),below_own (bel hbI bx9) (Nat.le_refl _) hgrow10 (fun g e=>(h7 g e).1),by omega,by rw [List.length_append,HLI.out];simp;omega,(hSI.below bx9).grown hgrow10 (fun h0 ad e e2=>?_) (fun t ht h0 ad e e2=>?_),fun g e=>?_,?_⟩
       ·injection e with e
        have:=(h7 _ e2.symm).2
        rw [←e] at this
        omega
       ·injection e with e
        rcases hat10 with e3 | e3
        ·rw [e3] at e2
         have:=(h7 _ e2).2
         rw [←e] at this
         omega
        ·rw [e3] at e2
         injection e2 with e2
         rw [←e] at e2
         omega
       ·injection e with e
        have:=hbI.size
        rw [←e]
        omega
       ·have a1:=FE h0 ad e
        have a2:=hobI _ e2.symm
        omega
       ·have a1:=FL t ht h0 ad e
        have a2:=hobI _ e2.symm
        omega
       ·rcases hat10 with e3 | e3
        ·rw [e3] at e
         exact hobI g e
        ·rw [e3] at e
         injection e with e
         omega
       ·show _=_
        rw [List.map_append,hcI.out,List.take_add_one,HG.out]
        simp
      case measure=>simp [intOf];omega
     ·have j0:decide ((j:Int) < (m:Int))=false:=by simp;omega
      have HLI:=Lib.hid hlI
      have HJ:=Lib.hid (show j=m by omega)
      clear hlI
      go_wp2_with fail
      go_roundw
      case rel =>
       have hm:m=l.length:=hSl.1.1
       refine ⟨i1,L',rfl,by rw [HI1.out];omega,.inl (by rw [HI1.out];omega),hownI,hroI,hnwI,hbI,by rw [HLI.out,HI1.out];omega,?_⟩
       show _=_
       have e:i1 - f=(i - f) + 1:=by rw [HI1.out];omega
       have e2:f + (i - f)=i:=by omega
       rw [hcI.out,HJ.out,hm,List.take_length,e,A.range_snoc,List.flatMap_append,←hcl.out,e2]
       rw [List.flatMap_singleton,←HI1.out,←HD.out,←hlD,List.map_map]
       rfl
      case measure=>simp [intOf];have:=HI1.out;omega
   ·have i0:decide ((i:Int) < (b:Int))=false:=by simp;omega
    go_wp2_with fail
    go_ret
    obtain ⟨E,c,rfl,hS,hc,hE⟩:=own_shs hown rfl hro
    refine ⟨⟨E,_,c,L,rfl,hS,hc,?_,hE,hnw⟩,hbr⟩
    rw [hcl.out,HC.out]
    congr 2
    omega
set_option maxHeartbeats 4000000 in
theorem refute1_any (G:Nat) (V:Option Addr) (vn vc:Nat) (v:List Int) (s:Sh) (w:World) (hG:w.heap[G]? = some (.cells #[.slice V vn vc] 48 (0,0))) (hs:Ints w s.A s.n s.l) (hn:s.n≤1000000000) (hV:Ints w V vn v) (hvn:vn≤1000000000) :
  Calls Tryz.prog 76 #[.slice s.A s.n s.c,.pointer (some ⟨G,0,none⟩)] w fun e w'=>e=.returned (.bool (A.part s.l v))∧Below w.heap.size w w':=by
 have c0:=blk_cell hG 0 _ rfl
 have CP:=part32_any s.A s.n s.c s.l V vn vc v w hs hn hV hvn
 go_enter Tryz.func76,Tryz.ntmps76
 go_wp2_with fail
 refine CP.mono ?_
 rintro e w1 ⟨rfl,hb1⟩
 go_wp2_with fail
 go_ret
 exact ⟨rfl,hb1⟩
set_option maxHeartbeats 4000000 in
theorem index62_any (G:Nat) (E:Option Addr) (n c:Nat) (shs:List Sh) (V:Option Addr) (vn vc:Nat) (v:List Int) (w:World) (hl:Shs w E n shs) (hn:n≤1000000000) (hG:w.heap[G]? = some (.cells #[.slice V vn vc] 48 (0,0))) (h6:∀ s ∈ shs,s.n≤1000000000) (hV:Ints w V vn v) (hvn:vn≤1000000000) :
  Calls Tryz.prog 126 #[.slice E n c,.func (.func 76) #[] #[.pointer (some ⟨G,0,none⟩)]] w fun e w'=>(∃ i:Int,e=.returned (.int .i64 i)∧(decide (0≤i))=shs.any (fun s=>A.part s.l v))∧Below w.heap.size w w':=by
 go_enter Tryz.func126,Tryz.ntmps126
 go_wp2_with fail
 go_loopw [8] (fun vi wr=>∃ k:Nat,vi=.int .i64 k∧k≤n∧Hid (shs.any (fun s=>A.part s.l v)=(shs.drop k).any (fun s=>A.part s.l v))∧Below w.heap.size w wr) (fun vi _=>n - (intOf vi).toNat)
 case atStart=>exact ⟨0,rfl,by omega,by show _=_;rw [List.drop_zero],Below.refl _ _⟩
 case round =>
  obtain ⟨k,rfl,hk,hr,hW⟩:=hrel
  by_cases hlt:k < n
  ·obtain ⟨ad,s,rfl,hg,⟨hI,-⟩,c0⟩:=(hl.below hW).at_ hlt
   have HS:=Lib.hid (drop_any (p:=fun s:Sh=>A.part s.l v) hg)
   have CB:=refute1_any G V vn vc v s wr (blk_below hW hG) hI (h6 s (List.mem_of_getElem? hg)) (hV.below hW) hvn
   obtain ⟨r9,hr9⟩:∃ r9,r9=A.part s.l v:=⟨_,rfl⟩
   rw [←hr9] at CB
   have HR9:=Lib.hid hr9
   have k0:(0:Int)≤(k:Int):=by omega
   have k1:(k:Int) < (n:Int):=by omega
   clear hg hr9 hI
   go_wp2_with fail
   refine CB.mono ?_
   rintro e w1 ⟨rfl,hW1⟩
   have hW2:=bel hW hW1
   clear CB
   cases r9
   ·go_wp2_with fail
    go_roundw
    case rel=>exact ⟨k + 1,by go_num,by omega,by show _=_;rw [hr.out,HS.out,←HR9.out];rfl,hW2⟩
    case measure=>simp [intOf];omega
   ·go_wp2_with fail
    go_ret
    exact ⟨⟨k,rfl,by rw [hr.out,HS.out,←HR9.out];simp⟩,hW2⟩
  ·have hd:shs.drop k=[]:=List.drop_eq_nil_of_le (by rw [←hl.1.1];omega)
   have HD:=Lib.hid hd
   clear hd
   go_wp2_with fail
   go_ret
   exact ⟨⟨-1,rfl,by rw [hr.out,HD.out];rfl⟩,hW⟩
set_option maxHeartbeats 4000000 in
theorem contains36_any (G:Nat) (E:Option Addr) (n c:Nat) (shs:List Sh) (V:Option Addr) (vn vc:Nat) (v:List Int) (w:World) (hl:Shs w E n shs) (hn:n≤1000000000) (hG:w.heap[G]? = some (.cells #[.slice V vn vc] 48 (0,0))) (h6:∀ s ∈ shs,s.n≤1000000000) (hV:Ints w V vn v) (hvn:vn≤1000000000) :
  Calls Tryz.prog 75 #[.slice E n c,.func (.func 76) #[] #[.pointer (some ⟨G,0,none⟩)]] w fun e w'=>e=.returned (.bool ((shs.map Sh.l).any fun u=>A.part u v))∧Below w.heap.size w w':=by
 have CI:=index62_any G E n c shs V vn vc v w hl hn hG h6 hV hvn
 go_enter Tryz.func75,Tryz.ntmps75
 go_wp2_with fail
 refine CI.mono ?_
 rintro e w1 ⟨⟨i,rfl,hi⟩,hb1⟩
 go_wp2_with fail
 go_ret
 exact ⟨by rw [List.any_map];show _=Ending.returned (.bool (shs.any fun s=>A.part s.l v));rw [←hi];rfl,hb1⟩
namespace A
theorem ownGo_append {ok:List Int→Bool}:∀ (L1 own L2:List (List Int)),ownGo ok own (L1 ++ L2)=ownGo ok (ownGo ok own L1) L2
 | [],_,_=>rfl
 | v :: L1,own,L2=>by
  rw [List.cons_append,ownGo,ownGo]
  exact ownGo_append L1 _ L2
theorem ownGo_yes {ok:List Int→Bool} {own L:List (List Int)} {v:List Int} (h:((ownGo ok own L).any fun u=>part u v)=false) (h2:ok v=false):ownGo ok own (L ++ [v])=ownGo ok own L ++ [v]:=by
 rw [ownGo_append,ownGo,ownGo,h,h2]
 rfl
theorem ownGo_no {ok:List Int→Bool} {own L:List (List Int)} {v:List Int} (h:((ownGo ok own L).any fun u=>part u v)=true∨ok v=true):ownGo ok own (L ++ [v])=ownGo ok own L:=by
 rw [ownGo_append,ownGo,ownGo]
 rcases h with h | h <;> rw [h] <;> simp
def upto (n k:Nat):List (List Int):=(List.range k).flatMap fun k=>combos n (k + 1) 0
theorem upto_succ (n k:Nat):upto n (k + 1)=upto n k ++ combos n (k + 1) 0:=by unfold upto;rw [List.range_succ,List.flatMap_append,List.flatMap_singleton]
end A
namespace K
section
variable {nd : Int} {l : List Ro} {ss : List S} {r : List Q}
theorem plan_four (h:(plan nd l ss r).2=4):pcheck nd l ss r=0:=by
 unfold plan at h
 split at h
 ·assumption
 ·rename_i h1
  exfalso
  have h:pcheck nd l ss r=4:=h
  unfold pcheck at h
  split at h
  ·split at h <;> cases h
  ·cases h
theorem refute_zero (h:(plan nd l ss r).2=0):refute nd l ss r=([],7):=by unfold refute;rw [if_pos h]
theorem refute_other (h:(plan nd l ss r).2 ≠ 0) (h2:(plan nd l ss r).2 ≠ 4):refute nd l ss r=([],(plan nd l ss r).2):=by unfold refute;rw [if_neg h,if_neg h2]
theorem refute_four (h:(plan nd l ss r).2=4):refute nd l ss r=((sets32 nd l ss r).map (blk32 nd l ss r),0):=by unfold refute;rw [if_neg (by rw [h];decide),if_pos h]
theorem labs_len6 {s:S} {v:List Int} (h:v.length≤6):(labs nd l s r v).length≤384:=by
 unfold labs
 split
 ·refine Nat.le_trans (tabLabs_len _ _ _) ?_
  have:2 ^ v.length≤2 ^ 6:=Nat.pow_le_pow_right (by omega) h
  exact Nat.le_trans (Nat.mul_le_mul this h) (by decide)
 ·exact Nat.zero_le _
def blksUpto (nd:Int) (l:List Ro) (ss:List S) (r:List Q) (s:Nat):List (Int × List Int × List Lb):=(List.range s).flatMap fun s=>(A.own (feas nd l ss r s) r.length).map fun v=>((s:Int),(blk32 nd l ss r (s,v)).2)
theorem blksUpto_succ (s:Nat):blksUpto nd l ss r (s + 1)=blksUpto nd l ss r s ++ (A.own (feas nd l ss r s) r.length).map fun v=>((s:Int),(blk32 nd l ss r (s,v)).2):=by unfold blksUpto;rw [List.range_succ,List.flatMap_append,List.flatMap_singleton]
theorem blksUpto_all:((sets32 nd l ss r).map (blk32 nd l ss r)).map (fun b=>((b.1:Int),b.2))=blksUpto nd l ss r ss.length:=by
 unfold sets32 blksUpto
 rw [List.map_map,List.map_flatMap]
 congr 1
 funext s
 rw [List.map_map]
 rfl
end
end K
theorem Shs.ext {w w':World} {E:Option Addr} {n:Nat} {l:List Sh} (h:Shs w E n l) (he:Ext w w'):Shs w' E n l:=⟨Lst.ext h.1 he,fun s hs=>⟨(h.2 s hs).1.ext he,(h.2 s hs).2⟩⟩
theorem RowOk.ext {w w':World} {v:Value} {L:List Sh} (h:RowOk w v L) (he:Ext w w'):RowOk w' v L:=fun s hs=>⟨⟨(h s hs).1.1.ext he,(h s hs).1.2⟩,(h s hs).2⟩
def OffRow (E:Option Addr) (m:Nat) (v:Value):Prop:=0 < m→∀ ad,E=some ad→v.ownBlock ≠ some ad.block
theorem OffRow.grow {w:World} {v v':Value} {E:Option Addr} {m:Nat} {l:List Sh} (h:OffRow E m v) (hS:Shs w E m l) (ha:v'.ownBlock=v.ownBlock∨v'.ownBlock=some w.heap.size):OffRow E m v':=fun h0 ad e e2=>by
 rcases ha with e3 | e3
 ·rw [e3] at e2;exact h h0 ad e e2
 ·rw [e3] at e2
  injection e2 with e2
  obtain ⟨ad',s,e',-,-,hc⟩:=hS.at_ h0
  rw [e] at e'
  injection e' with e'
  subst e'
  have:=cell_lt hc
  rw [add_block] at this
  omega
def BlOk (w:World) (v:Value) (bl:List BV):Prop:=∀ y ∈ bl,(Ints w y.V y.vn y.v∧Labs w y.LA y.ln y.lb)∧OffRow y.V y.vn v∧OffRow y.LA y.ln v∧(y.vn≤y.vc∧y.vn≤6∧y.ln≤384)
theorem BlOk.ext {w w':World} {v:Value} {bl:List BV} (h:BlOk w v bl) (he:Ext w w'):BlOk w' v bl:=fun y hy=>⟨⟨(h y hy).1.1.ext he,Lst.ext (h y hy).1.2 he⟩,(h y hy).2⟩
theorem BlOk.below {w w':World} {v:Value} {bl:List BV} (h:BlOk w v bl) (hb:Below w.heap.size w w'):BlOk w' v bl:=h.ext (Ext.below hb)
theorem Labs.grow {w w':World} {A:Option Addr} {n:Nat} {l:List Lb} {r:Option Nat} (h:Labs w A n l) (hg:w.grownBy w' r) (hne:0 < n→∀ ad,A=some ad→some ad.block ≠ r):Labs w' A n l:=by
 refine ⟨h.1,h.2.1,fun h0=>?_⟩
 obtain ⟨ad,e,hc⟩:=h.2.2 h0
 refine ⟨ad,e,fun j u hu=>?_⟩
 have c:=hc j u hu
 exact (World.cell?_of_block (hg.block _ (cell_lt c) (by rw [add_block];exact hne h0 ad e))).trans c
theorem Labs.lt_of {w:World} {A:Option Addr} {n:Nat} {l:List Lb} (h:Labs w A n l) (h0:0 < n) {ad:Addr} (e:A=some ad):ad.block < w.heap.size:=by
 obtain ⟨ad',e',hc⟩:=h.2.2 h0
 rw [e] at e'
 injection e' with e'
 have hl:0 < (l.flatMap labCells).length:=by rw [h.2.1];omega
 have:=cell_lt (hc 0 _ (List.getElem?_eq_getElem hl))
 rw [add_block,←e'] at this
 exact this
theorem BlOk.grow {w w':World} {v v':Value} {bl:List BV} (h:BlOk w v bl) (hg:w.grownBy w' v.ownBlock) (ha:v'.ownBlock=v.ownBlock∨v'.ownBlock=some w.heap.size):BlOk w' v' bl:=fun y hy=>by
 obtain ⟨⟨h1,h2⟩,h3,h4,h5⟩:=h y hy
 refine ⟨⟨h1.grow hg fun h0 ad e e2=>h3 h0 ad e e2.symm,h2.grow hg fun h0 ad e e2=>h4 h0 ad e e2.symm⟩,fun h0 ad e e2=>?_,fun h0 ad e e2=>?_,h5⟩
 ·rcases ha with e3 | e3
  ·rw [e3] at e2;exact h3 h0 ad e e2
  ·rw [e3] at e2
   injection e2 with e2
   have:=h1.lt_of h0 e
   omega
 ·rcases ha with e3 | e3
  ·rw [e3] at e2;exact h4 h0 ad e e2
  ·rw [e3] at e2
   injection e2 with e2
   have:=h2.lt_of h0 e
   omega
theorem BlOk.snoc {w:World} {v:Value} {bl:List BV} (h:BlOk w v bl) {y:BV} (h1:(Ints w y.V y.vn y.v∧Labs w y.LA y.ln y.lb)∧OffRow y.V y.vn v∧OffRow y.LA y.ln v∧(y.vn≤y.vc∧y.vn≤6∧y.ln≤384)):BlOk w v (bl ++ [y]):=fun s hs=>by
 rcases List.mem_append.1 hs with hs | hs
 ·exact h s hs
 ·rw [List.mem_singleton] at hs
  rw [hs];exact h1
theorem Tryz.info90:(Tryz.prog.info? 90).map (fun i=>(i.zero,i.size,i.bytes))=some (some (.agg #[.int .i64 0,.slice none 0 0,.slice none 0 0]),3,56):=by kernel_rfl
set_option maxRecDepth 100000 in
theorem step_app_blk {ops:Array Oper} {o:Oper} {a:Act} {w w2:World} {K:Act→World→Prop} {Q:Exit→Act→World→Prop} {E:Prop} (hgd:o.guard=none) (s x:Operand)
  (ho:o.op=.call { callee:=.builtin .append,args:=#[s,x],argTypes:=#[28,28] })
  {base:Nat} {v:Value} {n:Nat} {l:List BV} (hown:w2.ownsRow base 90 3 v n (l.flatMap BV.cells)) (hbase:base≤w2.heap.size) (hs:a.eval s=v) (g:Nat) (y:BV) (hx:a.eval x=.slice (some ⟨g,0,none⟩) 1 1)
  (hw:Below w2.heap.size w2 w) (hg:w.heap[g]? = some (.cells #[.int .i64 y.sh,.slice y.V y.vn y.vc,.slice y.LA y.ln y.lc] 90 (0,0))) (hn:n≤1000000)
  (h:∀ v' w',w'.ownsRow base 90 3 v' (n + 1) ((l ++ [y]).flatMap BV.cells)→w.grownBy w' v.ownBlock→(v'.ownBlock=v.ownBlock∨v'.ownBlock=some w.heap.size)→K (a.put o.dst v') w') :
  if Region.wanted o (yielded ops a.tmps)=true then Oper.wp Tryz.prog o a w K Q else E:=by
 obtain ⟨i0,hi,hz0,hz1,hz2⟩:=info_parts Tryz.info90
 refine step_append_rd hgd s x 28 ho base 90 i0 (.agg #[.int .i64 0,.slice none 0 0,.slice none 0 0]) 3 56 Tryz.underlying28 hi hz0 hz1 hz2 rfl (by decide) v n (l.flatMap BV.cells) hs (own_below hown hw) (some ⟨g,0,none⟩) 1 1 y.cells hx ⟨rfl,fun _=>⟨_,rfl,fun j u hu=>by rw [add_zero_block];exact blk_cell hg j u (by simpa [BV.cells] using hu)⟩⟩ (fun u hu=>?_) (by simp only [maxLen];omega) (by omega) (Nat.le_trans hbase hw.size) ?_
 ·simp [BV.cells] at hu
  rcases hu with rfl | rfl | rfl <;> rfl
 ·intro v' w' h2 h3 h4
  exact h v' w' (by rw [List.flatMap_append];simpa using h2) h3 h4
def RetRefute (w w':World) (p:List (Int × List Int × List Lb)) (er:Int) (e:Ending):Prop :=
 (∃ A n c bl,e=.returned (.tuple #[.slice A n c,.int .i64 er])∧Blks w' A n bl∧n≤c∧FewB n bl∧bl.map BV.pr=p)∧Below w.heap.size w w'
theorem retRefute_nil {w w':World} {er:Int} (hb:Below w.heap.size w w'):RetRefute w w' [] er (.returned (.tuple #[.slice none 0 0,.int .i64 er])) :=
 ⟨⟨none,0,0,[],rfl,⟨⟨rfl,rfl,fun h=>absurd h (by omega)⟩,fun y h=>by cases h⟩,Nat.le_refl _,⟨by omega,fun y h=>by cases h⟩,rfl⟩,hb⟩
theorem PlAt.app {w0 w w':World} {b mb gb:Nat} {x:Cs} {X X':Nat→Prop} {shs:List Sh} {v v':Value} (h:PlAt w0 w b mb gb x X shs) (hg:w.grownBy w' v.ownBlock) (hv:∀ g,v.ownBlock=some g→X g) (ha:v'.ownBlock=v.ownBlock∨v'.ownBlock=some w.heap.size) (hX:∀ g,X' g→X g∨v'.ownBlock=some g):PlAt w0 w' b mb gb x X' shs:=by
 refine ((h.turn (Y:=fun g=>X g∨g=w.heap.size) (fun g h=>h.elim .inl fun e=>.inr (by rw [e];exact Nat.le_refl _))).own hg (fun g e=>.inl (hv g e))).turn fun g h=>.inl ?_
 rcases hX g h with h | h
 ·exact .inl h
 ·rcases ha with e | e
  ·rw [e] at h;exact .inl (hv g h)
  ·rw [e] at h;injection h with h;exact .inr h.symm
theorem gb_below {ws w w':World} {r:Option Nat} (h:ws.grownBy w r) (hb:Below w.heap.size w w'):ws.grownBy w' r:=h.andThen (row':=none) ⟨hb.os,hb.tape,hb.output,hb.size,fun q hq _=>hb.block q hq⟩ (fun _ e=>by cases e)
structure Mid (w1 ws w:World) (b mb gb:Nat) (x:Cs) (shs:List Sh) (u v:Value) (BS:Nat) (own:List Sh) (E:Option Addr) (m:Nat) (l:List Sh):Prop where
 row:w.ownsRow BS 48 1 v own.length (own.map Sh.val)
 ok:RowOk w v own
 pl:PlAt w1 w b mb gb x (fun g=>u.ownBlock=some g∨v.ownBlock=some g) shs
 gr:ws.grownBy w (some mb)
 sh:Shs w E m l
 off:OffRow E m v
 lk:RowOk w v l
theorem Mid.below {w1 ws w w':World} {b mb gb:Nat} {x:Cs} {shs:List Sh} {u v:Value} {BS:Nat} {own:List Sh} {E:Option Addr} {m:Nat} {l:List Sh} (h:Mid w1 ws w b mb gb x shs u v BS own E m l) (hb:Below w.heap.size w w'):Mid w1 ws w' b mb gb x shs u v BS own E m l :=
 ⟨own_below h.row hb,h.ok.below hb,h.pl.below hb,gb_below h.gr hb,h.sh.below hb,h.off,h.lk.below hb⟩
theorem Mid.best {w1 ws w w':World} {b mb gb:Nat} {x:Cs} {shs:List Sh} {u v:Value} {BS:Nat} {own:List Sh} {E:Option Addr} {m:Nat} {l:List Sh} (h:Mid w1 ws w b mb gb x shs u v BS own E m l) (hg:w.grownBy w' (some mb)) (hp:PlAt w1 w' b mb gb x (fun g=>u.ownBlock=some g∨v.ownBlock=some g) shs):Mid w1 ws w' b mb gb x shs u v BS own E m l :=
 ⟨h.row.kept hg (.inr fun e=>(h.pl.away mb (.inr e)).2.2.1 rfl),h.ok.ext (h.pl.memo.ext hg),hp,h.gr.trans hg,h.sh.ext (h.pl.memo.ext hg),h.off,h.lk.ext (h.pl.memo.ext hg)⟩
theorem Mid.app {w1 ws w w':World} {b mb gb:Nat} {x:Cs} {shs:List Sh} {u v v':Value} {BS:Nat} {own:List Sh} {E:Option Addr} {m:Nat} {l:List Sh} (h:Mid w1 ws w b mb gb x shs u v BS own E m l) {y:Sh} (hy:y ∈ l) (hg:w.grownBy w' v.ownBlock) (ha:v'.ownBlock=v.ownBlock∨v'.ownBlock=some w.heap.size) (hr:w'.ownsRow BS 48 1 v' (own.length + 1) ((own ++ [y]).map Sh.val)) (hBS:BS=ws.heap.size):Mid w1 ws w' b mb gb x shs u v' BS (own ++ [y]) E m l:=by
 have h1:=h.lk.grow hg ha
 refine ⟨by rw [List.length_append];exact hr,(h.ok.grow hg ha).snoc (h1 y hy).1 (h1 y hy).2,h.pl.app hg (fun g e=>.inr e) ha (fun g e=>e.elim (fun e=>.inl (.inl e)) .inr),h.gr.andThen hg (fun j e=>.inl (by rw [←hBS];exact (own_in h.row j e).1)),h.sh.grown hg (fun h0 ad e e2=>h.off h0 ad e e2.symm) (fun s hs h0 ad e e2=>(h.lk s hs).2 h0 ad e e2.symm),h.off.grow h.sh ha,h1⟩
structure Fin4 (w1 w:World) (b mb gb:Nat) (x:Cs) (shs:List Sh) (v:Value) (B1:Nat) (bl:List BV) (E:Option Addr) (n:Nat) (own:List Sh):Prop where
 row:w.ownsRow B1 90 3 v bl.length (bl.flatMap BV.cells)
 ok:BlOk w v bl
 pl:PlAt w1 w b mb gb x (fun g=>v.ownBlock=some g) shs
 sh:Shs w E n own
 off:OffRow E n v
 lk:RowOk w v own
theorem Fin4.below {w1 w w':World} {b mb gb:Nat} {x:Cs} {shs:List Sh} {v:Value} {B1:Nat} {bl:List BV} {E:Option Addr} {n:Nat} {own:List Sh} (h:Fin4 w1 w b mb gb x shs v B1 bl E n own) (hb:Below w.heap.size w w'):Fin4 w1 w' b mb gb x shs v B1 bl E n own :=
 ⟨own_below h.row hb,h.ok.below hb,h.pl.below hb,h.sh.below hb,h.off,h.lk.below hb⟩
theorem Fin4.app {w1 w w':World} {b mb gb:Nat} {x:Cs} {shs:List Sh} {v v':Value} {B1:Nat} {bl:List BV} {E:Option Addr} {n:Nat} {own:List Sh} (h:Fin4 w1 w b mb gb x shs v B1 bl E n own) {y:BV} (hy:(Ints w y.V y.vn y.v∧Labs w y.LA y.ln y.lb)∧OffRow y.V y.vn v∧OffRow y.LA y.ln v∧(y.vn≤y.vc∧y.vn≤6∧y.ln≤384)) (hg:w.grownBy w' v.ownBlock) (ha:v'.ownBlock=v.ownBlock∨v'.ownBlock=some w.heap.size) (hr:w'.ownsRow B1 90 3 v' (bl.length + 1) ((bl ++ [y]).flatMap BV.cells)):Fin4 w1 w' b mb gb x shs v' B1 (bl ++ [y]) E n own :=
 ⟨by rw [List.length_append];exact hr,(h.ok.snoc hy).grow hg ha,h.pl.app hg (fun g e=>e) ha (fun g e=>.inr e),h.sh.grown hg (fun h0 ad e e2=>h.off h0 ad e e2.symm) (fun s hs h0 ad e e2=>(h.lk s hs).2 h0 ad e e2.symm),h.off.grow h.sh ha,h.lk.grow hg ha⟩
end Go.Proofs.YtippdjmpkafifaaGreat
