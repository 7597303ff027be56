import Derived.Test.YtippdjmpkafifaaGreatCV14
import Derived.Deep.RegionWith
import Derived.Test.YtippdjmpkafifaaGreatCV11
import Derived.Test.YtippdjmpkafifaaGreatCV13
namespace Go.Proofs.YtippdjmpkafifaaGreat
open Go.RowKit
theorem Rd.sets {w:World} {size n:Nat} {A:Option Addr} {xs:List Value} (h:Rd w size A n xs) (l:List (Addr × Value)) (hl:0 < n→∀ ad,A=some ad→∀ p ∈ l,p.1.block ≠ ad.block):Rd (Sets w l) size A n xs :=
 ⟨h.1,fun hn=>by
  obtain ⟨ad,e,hc⟩:=h.2 hn
  exact ⟨ad,e,fun j u hu=>(World.cell?_of_block (Sets.other l w _ (by rw [add_block];exact hl hn ad e))).trans (hc j u hu)⟩⟩
theorem own_sets {base:Nat} {e:TypeId} {size n:Nat} {v:Value} {xs:List Value}:∀ (l:List (Addr × Value)) {w:World},w.ownsRow base e size v n xs→(∀ p ∈ l,p.1.block < base)→(Sets w l).ownsRow base e size v n xs
 | [],_,h,_=>h
 | p :: l,_,h,hl=>own_sets l (ownsRow_setCell_below h (hl p (List.mem_cons_self ..)) _) fun q hq=>hl q (List.mem_cons_of_mem _ hq)
theorem shift_one (x:S):∀ u ∈ S.cells x,u.oneCell'=true:=by
 intro u hu
 simp only [S.cells,List.mem_cons,List.not_mem_nil,or_false] at hu
 rcases hu with rfl | rfl | rfl | rfl | rfl | rfl <;> rfl
def SOk (w:World) (v:Value) (L:List S):Prop:=∀ s ∈ L,Ints w s.A s.n s.l∧OffRow s.A s.n v
theorem SOk.below {w w':World} {v:Value} {L:List S} (h:SOk w v L) (hb:Below w.heap.size w w'):SOk w' v L:=fun q hq=>⟨(h q hq).1.below hb,(h q hq).2⟩
def S.rooms (s:S) (A:Option Addr) (c:Nat):S:=⟨s.day,s.depot,s.start,s.end_,s.tare,A,s.n,c,s.l⟩
theorem set_cells {L:List S} {k:Nat} {s:S} (hk:L[k]? = some s) (A:Option Addr) (c:Nat):(L.flatMap S.cells).set (k * 6 + 5) (.slice A s.n c)=(L.set k (s.rooms A c)).flatMap S.cells:=by
 induction L generalizing k with
 | nil=>cases hk
 | cons x L ih =>
  cases k with
  | zero =>
   rw [List.getElem?_cons_zero] at hk
   injection hk with hk
   subst hk
   rfl
  | succ k =>
   rw [List.getElem?_cons_succ] at hk
   rw [List.set_cons_succ,List.flatMap_cons,List.flatMap_cons,←ih hk,show (k + 1) * 6 + 5=x.cells.length + (k * 6 + 5) by show _=6 + _;omega,List.set_append_right _ _ (by omega),Nat.add_sub_cancel_left]
theorem bare_set {L:List S} {k:Nat} {s:S} (hk:L[k]? = some s) (A:Option Addr) (c:Nat):(L.set k (s.rooms A c)).map S.bare=L.map S.bare:=by
 rw [List.map_set]
 apply List.ext_getElem?
 intro i
 rw [List.getElem?_set]
 by_cases e:k=i
 ·subst e
  have hl:=(List.getElem?_eq_some_iff.1 hk).1
  rw [if_pos rfl,List.length_map,if_pos hl,List.getElem?_map,hk]
  rfl
 ·rw [if_neg e]
theorem Ints.sets {w:World} {A:Option Addr} {n:Nat} {l:List Int} (h:Ints w A n l) (m:List (Addr × Value)) (hl:0 < n→∀ ad,A=some ad→∀ p ∈ m,p.1.block ≠ ad.block):Ints (Sets w m) A n l:=⟨h.1,h.2.sets m hl⟩
theorem set4_blk {w:World} {g:Nat} {x0 x1 x2 x3:Value} {t:TypeId} (h:w.heap[g]? = some (.cells #[x0,x1,x2,x3] t (0,0))) (y0 y1 y2 y3:Value):(Sets w [(⟨g,0,none⟩,y0),(⟨g,1,none⟩,y1),(⟨g,2,none⟩,y2),(⟨g,3,none⟩,y3)]).heap[g]? = some (.cells #[y0,y1,y2,y3] t (0,0)):=by
 have c0:=blk_set h 0 y0
 have c1:=blk_set c0 1 y1
 have c2:=blk_set c1 2 y2
 have c3:=blk_set c2 3 y3
 simp only [List.setIfInBounds_toArray,List.set_cons_zero,List.set_cons_succ] at c3
 exact c3
theorem set4_in {g:Nat} {y0 y1 y2 y3:Value} {p:Addr × Value} (h:p ∈ [((⟨g,0,none⟩:Addr),y0),(⟨g,1,none⟩,y1),(⟨g,2,none⟩,y2),(⟨g,3,none⟩,y3)]):p.1.block=g:=by
 simp only [List.mem_cons,List.not_mem_nil,or_false] at h
 rcases h with rfl | rfl | rfl | rfl <;> rfl
def NS (b:Nat) (ss L:List S) (k:Nat):Prop:=∀ i s,L[i]? = some s→(i < k→0 < s.n→∀ ad,s.A=some ad→b≤ad.block)∧(k≤i→ss[i]? = some s)
theorem flat_at {L:List S} {k:Nat} {s:S} (hk:L[k]? = some s) (j:Nat) (hj:j < 6):(L.flatMap S.cells)[k * 6 + j]? = s.cells[j]?:=flat_get S.cells 6 (fun _=>rfl) L k s hk j hj
set_option maxRecDepth 100000 in
set_option maxHeartbeats 16000000 in
theorem book_any (x:Cs) (A:Option Addr) (m1 d1:Nat) (w:World) (hR:Roads w x.A x.n x.l) (hS:Shifts w x.SA x.sn x.ss) (hn:x.n≤1000000) (hsn:x.sn≤1000000) (hsr:∀ s ∈ x.ss,s.n≤1000000) :
  Calls Tryz.prog 97 #[.agg #[.int .i64 x.nd,.slice x.A x.n x.c,.slice x.SA x.sn x.sc,.slice x.B x.m x.d],.slice A m1 d1] w fun e w'=>(∃ RA rc SA sc ss,e=.returned (.agg #[.int .i64 x.nd,.slice RA x.n rc,.slice SA x.sn sc,.slice A m1 d1])∧Roads w' RA x.n x.l∧Shifts w' SA x.sn ss∧ss.map S.bare=x.ss.map S.bare∧(0 < x.n→∀ ad,RA=some ad→w.heap.size≤ad.block)∧(∀ ad,SA=some ad→w.heap.size≤ad.block)∧∀ s ∈ ss,0 < s.n→∀ ad,s.A=some ad→w.heap.size≤ad.block)∧Below w.heap.size w w':=by
 obtain ⟨nd,RA,n,c,l,SA,sn,sc,ss,B,m,d,r⟩:=x
 dsimp only at hR hS hn hsn hsr ⊢
 clear r
 obtain ⟨w0,hw0⟩:∃ w0:World,w0=w.alloc (.cells #[.int .i64 nd,.slice RA n c,.slice SA sn sc,.slice B m d] 44):=⟨_,rfl⟩
 have b0:Below w.heap.size w w0:=by rw [hw0];exact (Below.refl _ _).alloc (Nat.le_refl _) _
 have z0:w0.heap.size=w.heap.size + 1:=by rw [hw0];exact World.size_alloc _ _
 have hN0:w0.heap[w.heap.size]? = some (.cells #[.int .i64 nd,.slice RA n c,.slice SA sn sc,.slice B m d] 44 (0,0)):=by rw [hw0];exact heap_alloc_new _ _
 obtain ⟨wb,hw1⟩:∃ wb:World,wb=w0.alloc (.cells #[.int .i64 0,.slice none 0 0,.slice none 0 0,.slice none 0 0] 44):=⟨_,rfl⟩
 have b1:Below w0.heap.size w0 wb:=by rw [hw1];exact (Below.refl _ _).alloc (Nat.le_refl _) _
 have z1:wb.heap.size=w.heap.size + 2:=by rw [hw1,World.size_alloc,z0]
 have hZ1:wb.heap[w.heap.size + 1]? = some (.cells #[.int .i64 0,.slice none 0 0,.slice none 0 0,.slice none 0 0] 44 (0,0)):=by rw [hw1,←z0];exact heap_alloc_new _ _
 have hN1:=blk_below b1 hN0
 have hb1:=bel b0 b1
 have hRb:Roads wb RA n l:=Lst.below hR hb1
 have hSb:=hS.below hb1
 have hmk:∀ w',Below wb.heap.size wb w'→(fun w':World=>w'.cell? ⟨w.heap.size,0,none⟩=some (.int .i64 nd)∧w'.cell? ⟨w.heap.size,1,none⟩=some (.slice RA n c)∧w'.cell? ⟨w.heap.size,2,none⟩=some (.slice SA sn sc)∧w'.cell? ⟨w.heap.size,3,none⟩=some (.slice B m d)) w':=fun w' h=>⟨blk_cell (blk_below h hN1) 0 _ rfl,blk_cell (blk_below h hN1) 1 _ rfl,blk_cell (blk_below h hN1) 2 _ rfl,blk_cell (blk_below h hN1) 3 _ rfl⟩
 have hbd:Below wb.heap.size wb wb.drew:=(Below.refl _ _).drew
 have hzd:wb.drew.heap.size=wb.heap.size:=rfl
 go_enter Tryz.func97,Tryz.ntmps97
 go_upto_region 1 with fail
 rw [←hw0,←hw1]
 clear hw0 hw1 z0 hN0 b0 b1
 have HSN:=Lib.hid hS.1.1
 go_cut [10] from 7 to 18 (fun v10 we=>∃ A1 k1 A2 k2 B2,v10=.slice A1 n k1∧we.heap[w.heap.size]? = some (.cells #[.int .i64 nd,.slice A1 n k1,.slice A2 sn k2,.slice A m1 d1] 44 (0,0))∧we.heap[w.heap.size + 1]? = some (.cells #[.int .i64 0,.slice none 0 0,.slice none 0 0,.slice none 0 0] 44 (0,0))∧Roads we A1 n l∧we.ownsRow B2 63 6 (.slice A2 sn k2) sn (ss.flatMap S.cells)∧SOk we (.slice A2 sn k2) ss∧(0 < n→∀ ad,A1=some ad→wb.heap.size≤ad.block∧ad.block < B2)∧wb.heap.size≤B2∧Below w.heap.size w we)
 case first =>
  obtain ⟨p0,p1,p2,p3⟩:=hmk _ hbd
  go_region_with (first
    | (go_at_call 149;refine (clone149 RA n c _ _ (hRb.below hbd).2 (flat_one _ road_one _) hn).mono ?_;rintro e wc ⟨⟨v1,rfl,hown1⟩,bc⟩;obtain ⟨A1,k1,rfl,hRd1,hF1⟩:=own_form hown1;have bc2:=bel hbd bc;obtain ⟨c0,c1,c2,c3⟩:=hmk _ bc2)
    | (go_at_call 150;refine (clone150 SA sn sc _ _ (hSb.below bc2).1.2 (flat_one _ shift_one _) hsn).mono ?_;rintro e wd ⟨⟨v2,rfl,hown2⟩,bd⟩;obtain ⟨A2,k2,rfl,-,hF2⟩:=own_form hown2;have bd2:=bel bc2 bd;have hNd:=blk_below bd2 hN1;have f0:=blk_free hNd;obtain ⟨q0,q1,q2,q3⟩:=hmk _ bd2)
    | fail)
  all_goals
   obtain ⟨we,hwe⟩:∃ we,we=Sets wd [(⟨w.heap.size,1,none⟩,.slice A1 n k1),(⟨w.heap.size,2,none⟩,.slice A2 sn k2),(⟨w.heap.size,3,none⟩,.slice A m1 d1)]:=⟨_,rfl⟩
   have hwc:wb.heap.size≤wc.heap.size:=bc2.size
   have hNe:we.heap[w.heap.size]? = some (.cells #[.int .i64 nd,.slice A1 n k1,.slice A2 sn k2,.slice A m1 d1] 44 (0,0)):=by
    rw [hwe]
    have e0:=blk_set hNd 1 (.slice A1 n k1)
    have e1:=blk_set e0 2 (.slice A2 sn k2)
    have e2:=blk_set e1 3 (.slice A m1 d1)
    simp only [List.setIfInBounds_toArray,List.set_cons_zero,List.set_cons_succ] at e2
    exact e2
   have hZe:we.heap[w.heap.size + 1]? = some (.cells #[.int .i64 0,.slice none 0 0,.slice none 0 0,.slice none 0 0] 44 (0,0)):=by
    rw [hwe]
    refine (Sets.other _ wd _ (fun p hp=>?_)).trans (blk_below bd2 hZ1)
    simp only [List.mem_cons,List.not_mem_nil,or_false] at hp
    rcases hp with rfl | rfl | rfl <;> simp
   have hRe:Roads we A1 n l:=by
    rw [hwe]
    refine ⟨hRb.1,(hRd1.below bd).sets _ (fun h0 ad e p hp=>?_)⟩
    have h9:=(hF1 ad.block (by rw [e];rfl)).1
    simp only [List.mem_cons,List.not_mem_nil,or_false] at hp
    rcases hp with rfl | rfl | rfl <;> (dsimp only;omega)
   have hOe:we.ownsRow wc.heap.size 63 6 (.slice A2 sn k2) sn (ss.flatMap S.cells):=by
    rw [hwe]
    refine own_sets _ hown2 (fun p hp=>?_)
    simp only [List.mem_cons,List.not_mem_nil,or_false] at hp
    rcases hp with rfl | rfl | rfl <;> (dsimp only;omega)
   have hbe:Below w.heap.size w we:=by
    rw [hwe]
    refine Sets.below _ _ _ (bel hb1 bd2) (fun p hp=>?_)
    simp only [List.mem_cons,List.not_mem_nil,or_false] at hp
    rcases hp with rfl | rfl | rfl <;> exact Nat.le_refl _
   have hSe:SOk we (.slice A2 sn k2) ss:=fun s hs=>by
    have h8:=(hS.2 s hs)
    refine ⟨h8.below hbe,fun h0 ad e e2=>?_⟩
    have h9:=(hF2 _ e2).1
    have h7:=h8.lt_of h0 e
    omega
   have hF1z:0 < n→∀ ad,A1=some ad→wb.heap.size≤ad.block∧ad.block < wc.heap.size:=fun h0 ad e=>hF1 ad.block (by rw [e];rfl)
   simp only [Sets] at hwe
   rw [←hwe]
   clear hwe hNd f0 q0 q1 q2 q3 p0 p1 p2 p3 hown2 hown1 hRd1 hF1 c0 c1 c2 c3
   go_wp2_with fail
   go_meet
   exact ⟨A1,k1,A2,k2,wc.heap.size,rfl,hNe,hZe,hRe,hOe,hSe,hF1z,hwc,hbe⟩
 case rest =>
  obtain ⟨A1,k1,A2,k2,B2,rfl,hNe,hZe,hRe,hOe,hSe,hF1z,hwc,hbe⟩:=hcut
  have p2:=blk_cell hNe 2 _ rfl
  have hwB:w.heap.size + 2≤B2:=by omega
  have HNS:NS wb.heap.size ss ss 0:=fun i s hs=>⟨fun h=>absurd h (Nat.not_lt_zero _),fun _=>hs⟩
  clear hmk hbd hzd hN1 hZ1 hb1 hRb hSb
  go_wp2_with fail
  clear p2
  go_loopw [22] (fun v22 wr=>∃ (k:Nat) (L:List S),v22=.int .i64 k∧k≤sn∧L.length=sn∧Hid (L.map S.bare=ss.map S.bare)∧wr.ownsRow B2 63 6 (.slice A2 sn k2) sn (L.flatMap S.cells)∧SOk wr (.slice A2 sn k2) L∧NS wb.heap.size ss L k∧(∀ s ∈ L,s.n≤1000000)∧Roads wr A1 n l∧wr.heap[w.heap.size]? = some (.cells #[.int .i64 nd,.slice A1 n k1,.slice A2 sn k2,.slice A m1 d1] 44 (0,0))∧wr.heap[w.heap.size + 1]? = some (.cells #[.int .i64 0,.slice none 0 0,.slice none 0 0,.slice none 0 0] 44 (0,0))∧Below w.heap.size w wr) (fun v22 _=>sn - (intOf v22).toNat)
  case atStart=>exact ⟨0,ss,rfl,Nat.zero_le _,HSN.out.symm,rfl,hOe,hSe,HNS,hsr,hRe,hNe,hZe,hbe⟩
  case round =>
   clear hOe hSe HNS hRe hNe hZe hbe
   obtain ⟨k,L,rfl,hk,hLl,hLb,hO,hok,hns,hln,hRr,hN,hZ,hbr⟩:=hrel
   have p0:=blk_cell hN 0 _ rfl
   have p1:=blk_cell hN 1 _ rfl
   have p2:=blk_cell hN 2 _ rfl
   have p3:=blk_cell hN 3 _ rfl
   have HLL:=Lib.hid hLl
   clear hLl
   by_cases hlt:k < sn
   ·obtain ⟨gs,cap,e,hg1,hg2⟩:=hO.form (by omega)
    injection e with e1 e2 e3
    subst e1 e3
    obtain ⟨s,hs⟩:∃ s,L[k]? = some s:=⟨_,List.getElem?_eq_getElem (by rw [HLL.out];exact hlt)⟩
    obtain ⟨hI,hoff⟩:=hok s (List.mem_of_getElem? hs)
    have hsn6:=hln s (List.mem_of_getElem? hs)
    have k0:(0:Int)≤(k:Int):=by omega
    have k1:(k:Int) < (sn:Int):=by omega
    have ce:∀ (W:World),W.ownsRow B2 63 6 (.slice (some ⟨gs,0,none⟩) sn k2) sn (L.flatMap S.cells)→∀ j (hj:j < 6),W.cell? ⟨gs,k * 6 + j,none⟩=s.cells[j]?:=fun W hW j hj=>by
     rw [hW.cellAt (k * 6 + j) (by omega),flat_at hs j hj]
    have c0:wr.cell? ⟨gs,k * 6,none⟩=some (.int .i64 s.day):=ce wr hO 0 (by decide)
    have c1:wr.cell? ⟨gs,k * 6 + 1,none⟩=some (.int .i64 s.depot):=ce wr hO 1 (by decide)
    have c2:wr.cell? ⟨gs,k * 6 + 2,none⟩=some (.int .i64 s.start):=ce wr hO 2 (by decide)
    have c3:wr.cell? ⟨gs,k * 6 + 3,none⟩=some (.int .i64 s.end_):=ce wr hO 3 (by decide)
    have c4:wr.cell? ⟨gs,k * 6 + 4,none⟩=some (.int .i64 s.tare):=ce wr hO 4 (by decide)
    have c5:wr.cell? ⟨gs,k * 6 + 5,none⟩=some (.slice s.A s.n s.c):=ce wr hO 5 (by decide)
    have HCE:=Lib.hid ce
    clear ce
    obtain ⟨w5,hw5⟩:∃ w5:World,w5=wr.alloc (.cells #[.int .i64 s.day,.int .i64 s.depot,.int .i64 s.start,.int .i64 s.end_,.int .i64 s.tare,.slice s.A s.n s.c] 63):=⟨_,rfl⟩
    obtain ⟨gx,hgx⟩:∃ gx,gx=wr.heap.size:=⟨_,rfl⟩
    have b5:Below wr.heap.size wr w5:=by rw [hw5];exact (Below.refl _ _).alloc (Nat.le_refl _) _
    have hX5:Shf w5 gx s:=by rw [hw5,hgx];exact Shf.new _ _
    have hN5:=blk_below b5 hN
    have hO5:=own_below hO b5
    have hok5:=hok.below b5
    have hI5:=hI.below b5
    have hbr5:=bel hbr b5
    have hne1:gs ≠ gx:=by omega
    have hne2:gs ≠ w.heap.size:=by omega
    have hbd5:Below w5.heap.size w5 w5.drew:=(Below.refl _ _).drew
    have hmk:∀ w',Below w5.heap.size w5 w'→(fun w':World=>w'.cell? ⟨w.heap.size,2,none⟩=some (.slice (some ⟨gs,0,none⟩) sn k2)∧w'.cell? ⟨gx,5,none⟩=some (.slice s.A s.n s.c)) w':=fun w' h=>⟨blk_cell (blk_below h hN5) 2 _ rfl,(hX5.below h).c5⟩
    have S0:=hmk _ (Below.refl _ _)
    have S0d:=hmk _ hbd5
    have hfar:∀ (W:World) (u:Value),(fun w':World=>w'.cell? ⟨w.heap.size,2,none⟩=some (.slice (some ⟨gs,0,none⟩) sn k2)∧w'.cell? ⟨gx,5,none⟩=some (.slice s.A s.n s.c)) W→(fun w':World=>w'.cell? ⟨w.heap.size,2,none⟩=some (.slice (some ⟨gs,0,none⟩) sn k2)∧w'.cell? ⟨gx,5,none⟩=some (.slice s.A s.n s.c)) (W.setCell ⟨gs,k * 6 + 5,none⟩ u):=fun W u h=>⟨(World.cell?_setCell_far W _ _ u hne2).trans h.1,(World.cell?_setCell_far W _ _ u hne1).trans h.2⟩
    have hsz5:=b5.size
    go_upto_region 5 with fail
    rw [←hw5]
    subst hgx
    clear hw5 c0 c1 c2 c3 c4 c5
    go_region_held3 (fun w':World=>w'.cell? ⟨w.heap.size,2,none⟩=some (.slice (some ⟨gs,0,none⟩) sn k2)∧w'.cell? ⟨wr.heap.size,5,none⟩=some (.slice s.A s.n s.c))
     (first | with_reducible exact S2 | with_reducible exact S1 | with_reducible exact S0d | with_reducible exact S0 | fail)
     (first
      | (go_at_call 109;refine (clone_own s.A s.n s.c s.l _ (hI5.below hbd5) hsn6).mono ?_;rintro e w6 ⟨⟨v5,rfl,hown5⟩,b6⟩;obtain ⟨A5,c5,rfl,hR5,hF5⟩:=own_form hown5;have b6r:=bel hbd5 b6;have S1:=hmk _ b6r;have hrow:=own_below hO5 b6r;have f5:=hrow.frozenAt (k * 6 + 5);have q5:w6.cell? ⟨gs,k * 6 + 5,none⟩=some (.slice s.A s.n s.c):=HCE.out w6 hrow 5 (by decide);have S2:=hfar w6 (.slice A5 s.n c5) S1)
      | fail)
    have hst:=hrow.stored (k * 6 + 5) (.slice A5 s.n c5)
    obtain ⟨w7,hw7⟩:∃ w7,w7=w6.setCell ⟨gs,k * 6 + 5,none⟩ (.slice A5 s.n c5):=⟨_,rfl⟩
    rw [←hw7] at hst
    obtain ⟨hO7,hg7⟩:=hst
    rw [set_cells hs] at hO7
    have hb6:=bel hbr5 b6r
    have hb7:Below w.heap.size w w7:=by rw [hw7];exact hb6.setCell (p:=⟨gs,k * 6 + 5,none⟩) (by dsimp only;omega) _
    have hN7:=grow_blk hg7 (blk_below b6r hN5) (fun e=>hne2 (by injection e with e;exact e.symm))
    have hZ7:=grow_blk hg7 (blk_below b6r (blk_below b5 hZ)) (fun e=>by injection e with e;omega)
    have hR7:Roads w7 A1 n l:=⟨hRr.1,by
     have h9:=((Lst.below (Lst.below hRr b5) b6r).2).sets [(⟨gs,k * 6 + 5,none⟩,.slice A5 s.n c5)] (fun h0 ad e p hp=>by
      rw [List.mem_singleton.1 hp]
      have:=(hF1z h0 ad e).2
      dsimp only
      omega)
     simp only [Sets] at h9
     rw [←hw7] at h9
     exact h9⟩
    have hgo:∀ t:S,Ints w6 t.A t.n t.l→OffRow t.A t.n (.slice (some ⟨gs,0,none⟩) sn k2)→Ints w7 t.A t.n t.l:=fun t h1 h2=>h1.grow hg7 (fun h0 ad e e2=>h2 h0 ad e e2.symm)
    have hA5:0 < s.n→∀ ad,A5=some ad→w5.heap.size≤ad.block:=fun h0 ad e=>(hF5 ad.block (by rw [e];rfl)).1
    have hI6:Ints w6 A5 s.n s.l:=⟨hI.1,hR5⟩
    have ho5:OffRow A5 s.n (.slice (some ⟨gs,0,none⟩) sn k2):=fun h0 ad e e2=>by
     have h1:=hA5 h0 ad e
     injection e2 with e2
     dsimp only at e2
     omega
    have hok7:SOk w7 (.slice (some ⟨gs,0,none⟩) sn k2) (L.set k (s.rooms A5 c5)):=fun t ht=>by
     rcases List.mem_or_eq_of_mem_set ht with ht | rfl
     ·obtain ⟨h1,h2⟩:=hok5 t ht
      exact ⟨hgo t (h1.below b6r) h2,h2⟩
     ·exact ⟨hgo (s.rooms A5 c5) hI6 ho5,ho5⟩
    have hns7:NS wb.heap.size ss (L.set k (s.rooms A5 c5)) (k + 1):=fun i t ht=>by
     rw [List.getElem?_set] at ht
     by_cases hki:k=i
     ·subst hki
      rw [if_pos rfl,if_pos (by rw [HLL.out];exact hlt)] at ht
      injection ht with ht
      subst ht
      exact ⟨fun _ h0 ad e=>(by have h1:=hA5 h0 ad e;omega),fun h=>absurd h (by omega)⟩
     ·rw [if_neg hki] at ht
      obtain ⟨h1,h2⟩:=hns i t ht
      exact ⟨fun h=>h1 (by omega),fun h=>h2 (by omega)⟩
    have hln7:∀ t ∈ L.set k (s.rooms A5 c5),t.n≤1000000:=fun t ht=>by
     rcases List.mem_or_eq_of_mem_set ht with ht | rfl
     ·exact hln t ht
     ·exact hsn6
    have HB7:=Lib.hid (show (L.set k (s.rooms A5 c5)).map S.bare=ss.map S.bare by rw [bare_set hs,hLb.out])
    have HL7:=Lib.hid (show (L.set k (s.rooms A5 c5)).length=sn by rw [List.length_set,HLL.out])
    rw [←hw7]
    clear hw7 hg7 hrow f5 q5 S1 S2 S0 S0d hmk hfar hown5 hR5 hF5 hA5 hI6 ho5 hgo hO5 hok5 hN5 hX5 hs hO hok hN hZ hRr hbr b6 b6r
    go_wp2_with fail
    go_roundw
    case rel=>(go_light;exact ⟨k + 1,L.set k (s.rooms A5 c5),by go_num,hlt,HL7.out,HB7.out,hO7,hok7,hns7,hln7,hR7,hN7,hZ7,hb7⟩)
    case measure=>(go_light;simp [intOf];omega)
   ·have d3:decide ((k:Int) < (sn:Int))=false:=by simp;omega
    have d2:decide (k < sn)=false:=by simp;omega
    have f0:=blk_free hZ
    have z0:=blk_cell hZ 0 _ rfl
    have z1:=blk_cell hZ 1 _ rfl
    have z2:=blk_cell hZ 2 _ rfl
    have z3:=blk_cell hZ 3 _ rfl
    go_wp2_with fail
    obtain ⟨M,hM⟩:∃ M:List (Addr × Value),M=[(⟨w.heap.size + 1,0,none⟩,.int .i64 nd),(⟨w.heap.size + 1,1,none⟩,.slice A1 n k1),(⟨w.heap.size + 1,2,none⟩,.slice A2 sn k2),(⟨w.heap.size + 1,3,none⟩,.slice A m1 d1)]:=⟨_,rfl⟩
    have hMb:∀ p ∈ M,p.1.block=w.heap.size + 1:=fun p hp=>by rw [hM] at hp;exact set4_in hp
    obtain ⟨wz,hwz⟩:∃ wz,wz=Sets wr M:=⟨_,rfl⟩
    have hZz:wz.heap[w.heap.size + 1]? = some (.cells #[.int .i64 nd,.slice A1 n k1,.slice A2 sn k2,.slice A m1 d1] 44 (0,0)):=by rw [hwz,hM];exact set4_blk hZ _ _ _ _
    have hbz:Below w.heap.size w wz:=by rw [hwz];exact Sets.below M wr wr (Below.refl _ _) (fun p hp=>by rw [hMb p hp];omega) |> fun h=>hbr.trans h
    have hRz:Roads wz A1 n l:=by rw [hwz];exact ⟨hRr.1,hRr.2.sets M (fun h0 ad e p hp=>by rw [hMb p hp];have:=(hF1z h0 ad e).1;omega)⟩
    obtain ⟨A9,c9,e9,hRd,hF9⟩:=own_form hO
    injection e9 with e1 e2 e3
    subst e1
    have hnw:∀ s ∈ L,0 < s.n→∀ ad,s.A=some ad→wb.heap.size≤ad.block:=fun t ht h0 ad e=>by
     obtain ⟨i,hi,e2⟩:=List.getElem_of_mem ht
     exact (hns i t (by rw [List.getElem?_eq_getElem hi,e2])).1 (by have:=HLL.out;omega) h0 ad e
    have hSz:Shifts wz A2 sn L:=by
     rw [hwz]
     refine ⟨⟨HLL.out.symm,hRd.sets M (fun h0 ad e p hp=>by rw [hMb p hp];have:=(hF9 ad.block (by rw [e];rfl)).1;omega)⟩,fun t ht=>(hok t ht).1.sets M (fun h0 ad e p hp=>by rw [hMb p hp];have:=hnw t ht h0 ad e;omega)⟩
    simp only [hM,Sets] at hwz
    rw [←hwz]
    refine bodyPost_ret_by (v:=.agg #[.int .i64 nd,.slice A1 n k1,.slice A2 sn k2,.slice A m1 d1]) (results_cell_row rfl _ wz (w.heap.size + 1) 44 _ (0,0) _ rfl hZz Tryz.underlying44 rfl (by kernel_rfl)) rfl ?_
    exact ⟨⟨A1,k1,A2,k2,L,rfl,hRz,hSz,hLb.out,fun h0 ad e=>(by have:=(hF1z h0 ad e).1;omega),fun ad e=>(by have:=(hF9 ad.block (by rw [e];rfl)).1;omega),fun t ht h0 ad e=>(by have:=hnw t ht h0 ad e;omega)⟩,hbz⟩
namespace K
section
variable {nd : Int} {l : List Ro} {ss : List S} {r : List Q} {x : Q}
theorem find33_zero (c:List Int) (f:Nat):find33 nd l ss r x c 0 f=if blocks33 nd l ss r x c=true then some c else none:=by
 unfold find33
 rw [A.combos,List.map_singleton,List.append_nil,List.find?_singleton]
theorem find33_done (c:List Int) {n f:Nat} (h:r.length≤f):find33 nd l ss r x c (n + 1) f=none:=by
 unfold find33
 rw [A.combos,Nat.sub_eq_zero_of_le h]
 rfl
theorem find33_step (c:List Int) {n f:Nat} (h:f < r.length):find33 nd l ss r x c (n + 1) f=(find33 nd l ss r x (c ++ [(f:Int)]) n (f + 1)).or (find33 nd l ss r x c (n + 1) (f + 1)):=by
 have e:(A.combos r.length (n + 1) f).map (c ++ ·)=(A.combos r.length n (f + 1)).map ((c ++ [(f:Int)]) ++ ·) ++ (A.combos r.length (n + 1) (f + 1)).map (c ++ ·):=by
  rw [A.combos,A.combos,show r.length - f=(r.length - (f + 1)) + 1 by omega,List.range'_succ,List.flatMap_cons,List.map_append,List.map_map]
  congr 1
  refine List.map_congr_left fun v _=>?_
  show c ++ ((f:Int) :: v)=_
  rw [List.append_assoc]
  rfl
 unfold find33
 rw [e,List.find?_append]
end
end K
def RetFind (B0:Nat) (w w':World) (o:Option (List Int)) (e:Ending):Prop :=
 (∃ A n k b,e=.returned (.tuple #[.slice A n k,.bool b])∧b=o.isSome∧(∀ v,o=some v→Ints w' A n v)∧∀ ad,A=some ad→B0≤ad.block)∧Below w.heap.size w w'
set_option maxRecDepth 100000 in
set_option maxHeartbeats 16000000 in
theorem find_any (x:Cs) (q:Q) (B0:Nat):∀ (many frm:Nat) (C:Option Addr) (cn cc:Nat) (c:List Int) (w:World),Ok33 w x q→Ints w C cn c→(∀ i ∈ c,0≤i∧i < (x.r.length:Int))→cn + many≤500→frm≤x.m→B0≤w.heap.size→(∀ ad,C=some ad→B0≤ad.block) →
  Calls Tryz.prog 98 #[.agg #[.int .i64 x.nd,.slice x.A x.n x.c,.slice x.SA x.sn x.sc,.slice x.B x.m x.d],.agg #[.int .i64 q.node,.int .i64 q.room,.int .i64 q.kilos,.int .i64 q.service,.int .i64 q.frm,.int .i64 q.by_,.slice q.A q.n q.c],.slice C cn cc,.int .i64 frm,.int .i64 many] w fun e w'=>RetFind B0 w w' (K.find33 x.nd x.l x.ss x.r q c many frm) e:=by
 intro many
 induction many with
 | zero =>
  intro frm C cn cc c w hx hC hc hcn hf hB0 hCf
  obtain ⟨w0,hw0⟩:∃ w0:World,w0=w.alloc (.cells #[.int .i64 x.nd,.slice x.A x.n x.c,.slice x.SA x.sn x.sc,.slice x.B x.m x.d] 44):=⟨_,rfl⟩
  have b0:Below w.heap.size w w0:=by rw [hw0];exact (Below.refl _ _).alloc (Nat.le_refl _) _
  have z0:w0.heap.size=w.heap.size + 1:=by rw [hw0];exact World.size_alloc _ _
  have hN0:BkBlk w0 w.heap.size x:=by rw [hw0];exact BkBlk.new _ _
  obtain ⟨wb,hw1⟩:∃ wb:World,wb=w0.alloc (.cells #[.int .i64 q.node,.int .i64 q.room,.int .i64 q.kilos,.int .i64 q.service,.int .i64 q.frm,.int .i64 q.by_,.slice q.A q.n q.c] 47):=⟨_,rfl⟩
  have b1:Below w0.heap.size w0 wb:=by rw [hw1];exact (Below.refl _ _).alloc (Nat.le_refl _) _
  have hB1:QBlk wb (w.heap.size + 1) q:=by rw [hw1,←z0];exact QBlk.new _ _
  have hN1:=hN0.below b1
  have hb1:=bel b0 b1
  have S0:=BQ.mk' hN1 hB1
  unfold BQ at S0
  obtain ⟨p0,p1,p2,p3,c0,c1,c2,c3,c4,c5,c6⟩:=S0
  have CB:=blocks151_any x q C cn cc c wb (hx.below hb1) (hC.below hb1) hc (by omega)
  obtain ⟨z,hz⟩:∃ z,z=K.blocks33 x.nd x.l x.ss x.r q c:=⟨_,rfl⟩
  rw [←hz] at CB
  have HZ:=Lib.hid hz
  rw [hw1,hw0] at p0 p1 p2 p3 c0 c1 c2 c3 c4 c5 c6
  clear hz
  go_enter Tryz.func98,Tryz.ntmps98
  go_wp2_with fail
  rw [←hw0,←hw1]
  refine CB.mono ?_
  rintro e w2 ⟨rfl,b2⟩
  clear p0 p1 p2 p3 c0 c1 c2 c3 c4 c5 c6 CB
  go_wp2_with fail
  go_ret2
  refine ⟨⟨C,cn,cc,z,rfl,?_,fun v hv=>?_,hCf⟩,bel hb1 b2⟩
  ·rw [K.find33_zero,←HZ.out]
   cases z <;> rfl
  ·rw [K.find33_zero,←HZ.out] at hv
   cases z
   ·cases hv
   ·injection hv with hv
    subst hv
    exact (hC.below hb1).below b2
 | succ many ih =>
  intro frm C cn cc c w hx hC hc hcn hf hB0 hCf
  obtain ⟨w0,hw0⟩:∃ w0:World,w0=w.alloc (.cells #[.int .i64 x.nd,.slice x.A x.n x.c,.slice x.SA x.sn x.sc,.slice x.B x.m x.d] 44):=⟨_,rfl⟩
  have b0:Below w.heap.size w w0:=by rw [hw0];exact (Below.refl _ _).alloc (Nat.le_refl _) _
  have z0:w0.heap.size=w.heap.size + 1:=by rw [hw0];exact World.size_alloc _ _
  have hN0:BkBlk w0 w.heap.size x:=by rw [hw0];exact BkBlk.new _ _
  obtain ⟨wb,hw1⟩:∃ wb:World,wb=w0.alloc (.cells #[.int .i64 q.node,.int .i64 q.room,.int .i64 q.kilos,.int .i64 q.service,.int .i64 q.frm,.int .i64 q.by_,.slice q.A q.n q.c] 47):=⟨_,rfl⟩
  have b1:Below w0.heap.size w0 wb:=by rw [hw1];exact (Below.refl _ _).alloc (Nat.le_refl _) _
  have hB1:QBlk wb (w.heap.size + 1) q:=by rw [hw1,←z0];exact QBlk.new _ _
  have hN1:=hN0.below b1
  have hb1:=bel b0 b1
  have HMK:=Lib.hid (show ∀ w',Below wb.heap.size wb w'→(fun w':World=>w'.cell? ⟨w.heap.size,0,none⟩=some (.int .i64 x.nd)∧w'.cell? ⟨w.heap.size,1,none⟩=some (.slice x.A x.n x.c)∧w'.cell? ⟨w.heap.size,2,none⟩=some (.slice x.SA x.sn x.sc)∧w'.cell? ⟨w.heap.size,3,none⟩=some (.slice x.B x.m x.d)∧w'.cell? ⟨w.heap.size + 1,0,none⟩=some (.int .i64 q.node)∧w'.cell? ⟨w.heap.size + 1,1,none⟩=some (.int .i64 q.room)∧w'.cell? ⟨w.heap.size + 1,2,none⟩=some (.int .i64 q.kilos)∧w'.cell? ⟨w.heap.size + 1,3,none⟩=some (.int .i64 q.service)∧w'.cell? ⟨w.heap.size + 1,4,none⟩=some (.int .i64 q.frm)∧w'.cell? ⟨w.heap.size + 1,5,none⟩=some (.int .i64 q.by_)∧w'.cell? ⟨w.heap.size + 1,6,none⟩=some (.slice q.A q.n q.c)) w' from fun w' h=>BQ.mk' (hN1.below h) (hB1.below h))
  have HRN:=Lib.hid hx.cs.reqs.1
  have hm9:=hx.m
  obtain ⟨M,hM⟩:∃ M,M=many + 1:=⟨_,rfl⟩
  have kM:IntKind.i64.wrap ((M:Int) - 1)=(many:Int):=by rw [IntWalk.i64_in _ (by omega)];omega
  have hd:((M:Int) == 0)=false:=by simp;omega
  have hd2:decide ((M:Int)=0)=false:=by simp;omega
  have hd3:decide (M=0)=false:=by simp;omega
  rw [←hM]
  obtain ⟨o,ho⟩:∃ o,o=K.find33 x.nd x.l x.ss x.r q c M frm:=⟨_,rfl⟩
  have HO:=Lib.hid ho
  have HM:=Lib.hid hM
  have IH:=Lib.hid ih
  rw [←ho]
  clear ho hM hN0 b0 z0 b1 ih
  go_enter Tryz.func98,Tryz.ntmps98
  go_wp2_with fail
  rw [←hw0,←hw1]
  clear hw0 hw1 hd hd2 hd3
  go_loopw [12] (fun v12 wr=>∃ i:Nat,v12=.int .i64 i∧i≤x.m∧Hid (o=K.find33 x.nd x.l x.ss x.r q c M i)∧Below wb.heap.size wb wr) (fun v12 _=>x.m - (intOf v12).toNat)
  case atStart=>exact ⟨frm,rfl,hf,HO.out,Below.refl _ _⟩
  case round =>
   obtain ⟨i,rfl,hi,hoi,hbr⟩:=hrel
   by_cases hlt:i < x.m
   ·have d1:decide ((i:Int) < (x.m:Int))=true:=by simp;omega
    have d2:decide (i < x.m)=true:=by simp;omega
    have S0:=HMK.out _ hbr
    have hbrd:Below wr.heap.size wr wr.drew:=(Below.refl _ _).drew
    have hal:Below wr.heap.size wr (wr.alloc (.cells #[.int .i64 (i:Int)] 3)).drew:=((Below.refl _ _).alloc (Nat.le_refl _) _).drew
    have S0d:=HMK.out _ (bel hbr hbrd)
    have S0a:=HMK.out _ (bel hbr hal)
    have S0b:=HMK.out _ (bel hbr ((Below.refl _ _).alloc (Nat.le_refl _) (.cells #[.int .i64 (i:Int)] 3)))
    obtain ⟨i1,hi1⟩:∃ i1,i1=i + 1:=⟨_,rfl⟩
    have kI:IntKind.i64.wrap ((i:Int) + 1)=(i1:Int):=by rw [IntWalk.i64_in _ (by omega)];omega
    have hi6:i1≤x.m:=by omega
    have HI1:=Lib.hid hi1
    have hcn9:cn≤1000000:=by omega
    have hcn6:cn + 1 + many≤500:=by omega
    have hxr:=hx.below (bel hb1 hbr)
    have hB0r:B0≤wr.heap.size:=Nat.le_trans hB0 (bel hb1 hbr).size
    have hCr:=hC.below (bel hb1 hbr)
    have hc6:∀ j ∈ c ++ [(i:Int)],0≤j∧j < (x.r.length:Int):=fun j hj=>by
     rcases List.mem_append.1 hj with hj | hj
     ·exact hc j hj
     ·rw [List.mem_singleton.1 hj]
      have:=HRN.out
      omega
    obtain ⟨o1,ho1⟩:∃ o1,o1=K.find33 x.nd x.l x.ss x.r q (c ++ [(i:Int)]) many i1:=⟨_,rfl⟩
    have HO1:=Lib.hid ho1
    have HST:=Lib.hid (show o=o1.or (K.find33 x.nd x.l x.ss x.r q c M i1) by
     rw [hoi.out,ho1,HM.out,hi1]
     exact K.find33_step c (by have:=HRN.out;omega))
    clear hi1 ho1 hoi
    go_upto_region 6 with fail
    go_region_held3 (fun w':World=>w'.cell? ⟨w.heap.size,0,none⟩=some (.int .i64 x.nd)∧w'.cell? ⟨w.heap.size,1,none⟩=some (.slice x.A x.n x.c)∧w'.cell? ⟨w.heap.size,2,none⟩=some (.slice x.SA x.sn x.sc)∧w'.cell? ⟨w.heap.size,3,none⟩=some (.slice x.B x.m x.d)∧w'.cell? ⟨w.heap.size + 1,0,none⟩=some (.int .i64 q.node)∧w'.cell? ⟨w.heap.size + 1,1,none⟩=some (.int .i64 q.room)∧w'.cell? ⟨w.heap.size + 1,2,none⟩=some (.int .i64 q.kilos)∧w'.cell? ⟨w.heap.size + 1,3,none⟩=some (.int .i64 q.service)∧w'.cell? ⟨w.heap.size + 1,4,none⟩=some (.int .i64 q.frm)∧w'.cell? ⟨w.heap.size + 1,5,none⟩=some (.int .i64 q.by_)∧w'.cell? ⟨w.heap.size + 1,6,none⟩=some (.slice q.A q.n q.c))
     (first | with_reducible exact S7 | with_reducible exact S6 | with_reducible exact S5a | with_reducible exact S5 | with_reducible exact S0a | with_reducible exact S0d | with_reducible exact S0b | with_reducible exact S0 | fail)
     (first
      | (go_at_call 109;refine (clone_own C cn cc c _ (hCr.below ?_) hcn9).mono ?_;(first | with_reducible exact hbrd | with_reducible exact hal | fail);rintro e w5 ⟨⟨v5,rfl,hown5⟩,b5⟩;(first | (have hL5:=blk_below b5 (heap_alloc_new wr (.cells #[.int .i64 (i:Int)] 3));have b5r:=bel hal b5) | have b5r:=bel hbrd b5 | fail);have S5:=HMK.out _ (bel hbr b5r);have b5a:Below w5.heap.size w5 (w5.alloc (.cells #[.int .i64 (i:Int)] 3)):=(Below.refl _ _).alloc (Nat.le_refl _) _;have S5a:=HMK.out _ (bel hbr (bel b5r b5a));have hbs5:=b5.size)
      | (have h9:=hown5;clear hown5;refine step_app_two rfl (.tmp 34) (.tmp 36) rfl h9 hbs5 rfl wr.heap.size (i:Int) rfl (Below.refl _ _) hL5 hcn9 ?_;intro A6 c6 w6 hI6 hA6 hg6 hb6;have b6r:=b5r.trans (hb6.mono hal.size);have hA6f:∀ ad,A6=some ad→B0≤ad.block:=fun ad e=>Nat.le_trans (Nat.le_trans hB0r hal.size) (hA6 ad e);have S6:=HMK.out _ (bel hbr b6r))
      | (have h9:=hown5;clear hown5;refine step_app_two rfl (.tmp 34) (.tmp 36) rfl h9 hbs5 rfl w5.heap.size (i:Int) rfl b5a (heap_alloc_new w5 _) hcn9 ?_;intro A6 c6 w6 hI6 hA6 hg6 hb6;have b6r:=(bel b5r b5a).trans (hb6.mono hbrd.size);have hA6f:∀ ad,A6=some ad→B0≤ad.block:=fun ad e=>Nat.le_trans hB0r (hA6 ad e);have S6:=HMK.out _ (bel hbr b6r))
      | (go_at_call 98;refine (IH.out i1 A6 (cn + 1) c6 (c ++ [(i:Int)]) _ (hxr.below b6r) hI6 hc6 hcn6 hi6 (Nat.le_trans hB0r b6r.size) hA6f).mono ?_;rw [←HO1.out];rintro e w7 ⟨⟨A7,n7,k7,z7,rfl,hz7,hI7,hF7⟩,b7⟩;have HF7:=Lib.hid hF7;have HZ7:=Lib.hid hz7;have HI7:=Lib.hid hI7;clear hz7 hI7 hF7;have b7r:=bel b6r b7;have S7:=HMK.out _ (bel hbr b7r))
      | fail)
    all_goals
     have hb7:=bel hbr b7r
     have hz7:=HZ7.out
     have hI7:=HI7.out
     cases z7
     ·have HN:=Lib.hid (show o=K.find33 x.nd x.l x.ss x.r q c M i1 by
       rw [HST.out]
       cases o1 with
       | none=>rfl
       | some v=>cases hz7)
      clear hz7 hI7
      go_wp2_with fail
      go_roundw
      case rel=>(go_light;exact ⟨i1,rfl,hi6,HN.out,hb7⟩)
      case measure=>(go_light;simp [intOf];have:=HI1.out;omega)
     ·obtain ⟨v,hv⟩:∃ v,o1=some v:=by
       cases o1 with
       | none=>cases hz7
       | some v=>exact ⟨v,rfl⟩
      have HN:=Lib.hid (show o=some v by rw [HST.out,hv];rfl)
      have hI8:=hI7 v hv
      clear hz7 hI7 hv
      go_wp2_with fail
      go_ret2
      exact ⟨⟨A7,n7,k7,true,rfl,by rw [HN.out];rfl,(fun u hu=>by rw [HN.out] at hu;injection hu with hu;rw [←hu];exact hI8),HF7.out⟩,bel hb1 hb7⟩
   ·have d1:decide ((i:Int) < (x.m:Int))=false:=by simp;omega
    have d2:decide (i < x.m)=false:=by simp;omega
    have HN:=Lib.hid (show o=none by rw [hoi.out,HM.out];exact K.find33_done c (by have:=HRN.out;omega))
    have S0:=HMK.out _ hbr
    obtain ⟨p0,p1,p2,p3,-⟩:=S0
    clear hoi
    go_wp2_with fail
    go_ret2
    exact ⟨⟨none,0,0,false,rfl,by rw [HN.out];rfl,(fun v hv=>by rw [HN.out] at hv;cases hv),(fun ad e=>(by cases e))⟩,bel hb1 hbr⟩
def NB (w:World) (bl:List BV):Prop:=∀ y ∈ bl,(0 < y.vn→∀ ad,y.V=some ad→w.heap.size≤ad.block)∧(0 < y.ln→∀ ad,y.LA=some ad→w.heap.size≤ad.block)
theorem NB.snoc {w:World} {bl:List BV} (h:NB w bl) {y:BV} (h1:0 < y.vn→∀ ad,y.V=some ad→w.heap.size≤ad.block) (h2:0 < y.ln→∀ ad,y.LA=some ad→w.heap.size≤ad.block):NB w (bl ++ [y]):=fun z hz=>by
 rcases List.mem_append.1 hz with hz | hz
 ·exact h z hz
 ·rw [List.mem_singleton.1 hz];exact ⟨h1,h2⟩
def RetRefuteX (w w':World) (p:List (Int × List Int × List Lb)) (er:Int) (e:Ending):Prop :=
 (∃ A n c bl,e=.returned (.tuple #[.slice A n c,.int .i64 er])∧Blks w' A n bl∧n≤c∧FewB n bl∧bl.map BV.pr=p∧(∀ ad,A=some ad→w.heap.size≤ad.block)∧NB w bl)∧Below w.heap.size w w'
theorem retRefuteX_nil {w w':World} {er:Int} (hb:Below w.heap.size w w'):RetRefuteX w w' [] er (.returned (.tuple #[.slice none 0 0,.int .i64 er])) :=
 ⟨⟨none,0,0,[],rfl,⟨⟨rfl,rfl,fun h=>absurd h (by omega)⟩,fun y h=>by cases h⟩,Nat.le_refl _,⟨by omega,fun y h=>by cases h⟩,rfl,(fun ad e=>(by cases e)),(fun y h=>(by cases h))⟩,hb⟩
set_option maxRecDepth 100000 in
set_option maxHeartbeats 16000000 in
theorem refute32X (x:Cs) (w:World) (hx:CsAt w x) :
  Calls Tryz.prog 22 #[.agg #[.int .i64 x.nd,.slice x.A x.n x.c],.slice x.SA x.sn x.sc,.slice x.B x.m x.d] w fun e w'=>RetRefuteX w w' ((K.refute x.nd x.l x.ss x.r).1.map fun b=>((b.1:Int),b.2)) (K.refute x.nd x.l x.ss x.r).2 e:=by
 have hN:=Net.new w x.nd x.A x.n x.c
 have p0:=hN.c0
 have p1:=hN.c1
 have b0:Below w.heap.size w (w.alloc (.cells #[.int .i64 x.nd,.slice x.A x.n x.c] 24)):=(Below.refl _ _).alloc (Nat.le_refl _) _
 have CP:=plan32_any x _ (hx.below b0)
 go_enter Tryz.func22,Tryz.ntmps22
 go_wp2_with fail
 refine CP.mono ?_
 obtain ⟨ce,hce⟩:∃ ce,ce=(K.plan x.nd x.l x.ss x.r).2:=⟨_,rfl⟩
 rintro e w1 ⟨⟨PA,pn,pc,pl,rfl,-,-,-⟩,b1⟩
 rw [←hce]
 have hN1:=hN.below b1
 have hb1:=bel b0 b1
 clear p0 p1 b0 b1 hN CP
 by_cases hz:ce=0
 ·have HX:=Lib.hid (show K.refute x.nd x.l x.ss x.r=([],7) from K.refute_zero (by rw [←hce];exact hz))
  have hd:(ce == 0)=true:=by simp [hz]
  have hd2:decide (ce=0)=true:=by simp [hz]
  clear hce hz
  go_wp2_with fail
  go_ret2
  rw [HX.out]
  exact retRefuteX_nil hb1
 by_cases hz4:ce=4
 rotate_left
 ·have HX:=Lib.hid (show K.refute x.nd x.l x.ss x.r=([],ce) by rw [hce] at hz hz4 ⊢;exact K.refute_other hz hz4)
  have hd:(ce == 0)=false:=by simp [hz]
  have hd2:(ce == 4)=false:=by simp [hz4]
  clear hce hz hz4
  go_wp2_with fail
  go_ret2
  rw [HX.out]
  exact retRefuteX_nil hb1
 subst hz4
 have HR:=Lib.hid (K.refute_four hce.symm)
 have HOK:=Lib.hid (K.plan_four hce.symm)
 clear hce hz
 have p0:=hN1.c0
 have p1:=hN1.c1
 go_wp2_with fail
 refine (start32_any x _ (hx.below hb1) HOK.out).mono ?_
 rintro e w2 ⟨b,mb,gb,rfl,hp2⟩
 have hm6:x.m≤6:=by rw [hx.reqs.1];exact (K.pcheck_ok HOK.out).2.2.2.2
 have hsn4:x.sn≤4:=by rw [hx.shifts.1.1];exact (K.pcheck_ok HOK.out).2.1
 have HSN:=Lib.hid hx.shifts.1.1
 have HRN:=Lib.hid hx.reqs.1
 obtain ⟨shs,hshs⟩:∃ shs,shs=List.replicate x.sn (⟨none,0,0,[]⟩:Sh):=⟨_,rfl⟩
 rw [←hshs] at hp2
 obtain ⟨G0,hG0⟩:∃ G0,G0=w.heap.size:=⟨_,rfl⟩
 rw [←hG0] at hN1
 rw [←hG0]
 obtain ⟨B1,hB1⟩:∃ B1,B1=w2.heap.size:=⟨_,rfl⟩
 have hWB:=Lib.hid (show w.heap.size≤B1 by rw [hB1];exact Nat.le_trans hb1.size hp2.bw.size)
 clear p0 p1 hshs hG0
 go_wp2_with fail
 go_loopw [11,38] (fun v11 v38 wr=>∃ (s:Nat) (bl:List BV),v38=.int .i64 s∧s≤x.sn∧wr.ownsRow B1 90 3 v11 bl.length (bl.flatMap BV.cells)∧BlOk wr v11 bl∧NB w bl∧PlAt w1 wr b mb gb x (fun g=>v11.ownBlock=some g) shs∧B1≤wr.heap.size∧bl.length≤1000 * s∧Hid (bl.map BV.pr=K.blksUpto x.nd x.l x.ss x.r s)) (fun _ v38 _=>x.sn - (intOf v38).toNat)
 case atStart=>exact ⟨0,[],rfl,Nat.zero_le _,World.ownsRow_nil _ _ _ _,fun y hy=>(by cases hy),fun y hy=>(by cases hy),hp2.turn (fun g h=>(by cases h)),by rw [hB1];exact Nat.le_refl _,Nat.zero_le _,rfl⟩
 case round =>
  clear hp2 hB1
  obtain ⟨s,bl,rfl,hs,hown,hbo,hnb,hp,hBr,hbl,hcl⟩:=hrel
  by_cases hlt:s < x.sn
  ·obtain ⟨sS,hsS⟩:∃ sS,x.ss[s]? = some sS:=⟨_,List.getElem?_eq_getElem (by rw [←HSN.out];exact hlt)⟩
   have j0:decide ((s:Int) < (x.sn:Int))=true:=by simp;omega
   have HSS:=Lib.hid hsS
   clear hsS
   obtain ⟨ws,hws⟩:∃ ws,ws=wr:=⟨_,rfl⟩
   rw [←hws] at hown hbo hp hBr
   rw [←hws]
   clear hws
   obtain ⟨BS,hBS⟩:∃ BS,BS=ws.heap.size:=⟨_,rfl⟩
   obtain ⟨FE,hFE⟩:∃ FE,FE=K.feas x.nd x.l x.ss x.r s:=⟨_,rfl⟩
   have HFE:=Lib.hid hFE
   clear hFE
   go_wp2_with fail
   go_loopw [13,43] (fun v13 v43 wi=>∃ (k:Nat) (own:List Sh),v43=.int .i64 k∧k≤x.m∧wi.ownsRow BS 48 1 v13 own.length (own.map Sh.val)∧RowOk wi v13 own∧NewL BS own∧(∀ y ∈ own,y.n≤6)∧PlAt w1 wi b mb gb x (fun g=>u11.ownBlock=some g∨v13.ownBlock=some g) shs∧ws.grownBy wi (some mb)∧own.length≤64 * k∧Hid (own.map Sh.l=A.ownGo FE [] (A.upto x.m k))) (fun _ v43 _=>x.m - (intOf v43).toNat)
   case atStart=>exact ⟨0,[],rfl,Nat.zero_le _,World.ownsRow_nil _ _ _ _,fun y hy=>(by cases hy),fun y hy=>(by cases hy),fun y hy=>(by cases hy),hp.turn (fun g h=>h.elim .inl fun e=>(by cases e)),⟨rfl,rfl,rfl,Nat.le_refl _,fun _ _ _=>rfl⟩,Nat.zero_le _,rfl⟩
   case round =>
    obtain ⟨k,own,rfl,hk,hownO,hroO,hnwO,h6O,hpO,hgO,hlO,hcO⟩:=hrel
    obtain ⟨wk,hwk⟩:∃ wk,wk=wr:=⟨_,rfl⟩
    rw [←hwk] at hownO hroO hpO hgO
    rw [←hwk]
    clear hwk
    by_cases hkm:k < x.m
    ·have k0:decide ((k:Int) < (x.m:Int))=true:=by simp;omega
     obtain ⟨kk,hkk⟩:∃ kk,kk=k + 1:=⟨_,rfl⟩
     have ks:IntKind.i64.wrap ((k:Int) + 1)=(kk:Int):=by rw [IntWalk.i64_in _ (by omega)];omega
     have CS:=sets35_any x.m hm6 kk 0 wk (by omega) (by omega)
     rw [show ((0:Nat):Int)=0 from rfl] at CS
     have HKK:=Lib.hid hkk
     have hDl:(A.combos x.m kk 0).length≤64:=A.combos_few hm6 (by omega) (by omega)
     obtain ⟨D,hD⟩:∃ D,D=A.combos x.m kk 0:=⟨_,rfl⟩
     rw [←hD] at CS hDl
     have HD:=Lib.hid hD
     clear hkk hD
     go_wp2_with fail
     refine CS.mono ?_
     rintro e wl ⟨⟨E,m,c,l,rfl,hSl,hmc,hlD,hEn,hln⟩,bl2⟩
     have hml:m≤64:=by rw [hSl.1.1,←List.length_map (f:=Sh.l),hlD];exact hDl
     have hl6:∀ t ∈ l,t.n≤6∧t.l.Pairwise (· < ·)∧∀ i ∈ t.l,0≤i∧i < (x.m:Int):=fun t ht=>by
      have h9:t.l ∈ A.combos x.m kk 0:=by rw [←HD.out,←hlD];exact List.mem_map_of_mem ht
      obtain ⟨h1,h2,h3⟩:=A.mem_combos.1 h9
      have h4:=(hSl.2 t ht).1.1
      have:=HKK.out
      exact ⟨by omega,h2,fun i hi=>by have:=h3 i hi;omega⟩
     have hoffE:OffRow E m u13:=fun _ ad e e2=>by
      have h1:=(own_in hownO _ e2).2
      have h2:=hEn ad e
      omega
     have hroE:RowOk wl u13 l:=fun t ht=>⟨hSl.2 t ht,fun h0 ad e e2=>by
      have h1:=(own_in hownO _ e2).2
      have h2:=hln t ht h0 ad e
      omega⟩
     have hownL:=own_below hownO bl2
     have hroL:=hroO.below bl2
     have hpL:=hpO.below bl2
     have hgL:ws.grownBy wl (some mb):=hgO.andThen (row':=none) ⟨bl2.os,bl2.tape,bl2.output,bl2.size,fun q hq _=>bl2.block q hq⟩ (fun _ e=>by cases e)
     have hnE:NewL BS l:=hln.mono (by rw [hBS];exact hgO.size)
     clear CS hownO hroO hpO hgO hEn hln bl2
     go_wp2_with fail
     go_loopw [13,52] (fun v13 v52 wj=>∃ (j:Nat) (own':List Sh),v52=.int .i64 j∧j≤m∧Mid w1 ws wj b mb gb x shs u11 v13 BS own' E m l∧NewL BS own'∧(∀ y ∈ own',y.n≤6)∧own'.length≤own.length + j∧Hid (own'.map Sh.l=A.ownGo FE [] (A.upto x.m k ++ (l.take j).map Sh.l))) (fun _ v52 _=>m - (intOf v52).toNat)
     case atStart=>exact ⟨0,own,rfl,Nat.zero_le _,⟨hownL,hroL,hpL,hgL,hSl,hoffE,hroE⟩,hnwO,h6O,Nat.le_refl _,by show _=_;rw [List.take_zero,List.map_nil,List.append_nil];exact hcO.out⟩
     case round =>
      clear hownL hroL hnwO h6O hpL hgL hoffE hroE hSl
      obtain ⟨j,own',rfl,hj,M,hnwI,h6I,hlI,hcI⟩:=hrel
      by_cases hjm:j < m
      ·obtain ⟨E2,c2,rfl,hS2,hc2,-⟩:=own_shs M.row rfl M.ok
       obtain ⟨ad,t,rfl,hg,⟨hI,hsc,hs0⟩,hc⟩:=M.sh.at_ hjm
       obtain ⟨wj,hwj⟩:∃ wj,wj=wr:=⟨_,rfl⟩
       rw [←hwj] at M hS2 hI hc
       rw [←hwj]
       clear hwj
       have j0:decide ((j:Int) < (m:Int))=true:=by simp;omega
       have js:IntKind.i64.wrap ((j:Int) + 1)=((j + 1:Nat):Int):=by rw [IntWalk.i64_in _ (by omega)];omega
       have htm:=List.mem_of_getElem? hg
       obtain ⟨h6,hso,hbd⟩:=hl6 t htm
       have hbd':∀ i ∈ t.l,0≤i∧i < (x.r.length:Int):=fun i hi=>by have:=hbd i hi;have:=HRN.out;omega
       have bA:Below wj.heap.size wj (wj.alloc (.cells #[.slice t.A t.n t.c] 48)):=(Below.refl _ _).alloc (Nat.le_refl _) _
       have hG:=heap_alloc_new wj (.cells #[.slice t.A t.n t.c] 48)
       have CC:=contains36_any wj.heap.size E2 own'.length c2 own' t.A t.n t.c t.l (wj.alloc (.cells #[.slice t.A t.n t.c] 48)) (hS2.below bA) (by omega) hG (fun y hy=>by have:=h6I y hy;omega) (hI.below bA) (by omega)
       have HTM:=Lib.hid htm
       have HSB:=Lib.hid (And.intro hso hbd')
       have HG:=Lib.hid hg
       have HLI:=Lib.hid hlI
       have htk:(l.take (j + 1)).map Sh.l=(l.take j).map Sh.l ++ [t.l]:=by rw [List.take_add_one,hg,List.map_append];rfl
       have HTK:=Lib.hid htk
       have hxsz:∀ g,(u11.ownBlock=some g∨(Value.slice E2 own'.length c2).ownBlock=some g)→g < wj.heap.size:=fun g e=>e.elim (fun e=>by have h1:=(own_in hown g e).2;have h2:=M.gr.size;omega) (fun e=>(own_in M.row g e).2)
       have HXS:=Lib.hid hxsz
       clear hg hlI htm hso hbd hbd' htk hxsz
       go_wp2_with fail
       refine CC.mono ?_
       rintro e wc ⟨rfl,bc⟩
       have M1:=(M.below bA).below bc
       have hG1:=blk_below bc hG
       have hI1:=(hI.below bA).below bc
       have bAC:=bel bA bc
       have cG:=blk_cell hG1 0 _ rfl
       clear CC M hG hI bA bc hS2 hc
       obtain ⟨z,hz⟩:∃ z,z=(own'.map Sh.l).any fun u=>A.part u t.l:=⟨_,rfl⟩
       rw [←hz]
       have HZ:=Lib.hid hz
       clear hz
       cases z with
       | true =>
        have HN:=Lib.hid (A.ownGo_no (ok:=FE) (own:=[]) (L:=A.upto x.m k ++ (l.take j).map Sh.l) (v:=t.l) (.inl (by rw [←hcI.out];exact HZ.out.symm)))
        go_wp2_with fail
        go_roundw
        case rel=>exact ⟨j + 1,own',by go_num,by omega,M1,hnwI,h6I,by have:=HLI.out;omega,by show _=_;rw [HTK.out,←List.append_assoc,HN.out];exact hcI.out⟩
        case measure=>simp [intOf];omega
       | false =>
        have CB:=best32_any w1 b mb gb x shs s sS t.A t.n t.c t.l wc M1.pl (fun g e=>Nat.lt_of_lt_of_le (HXS.out g e) bAC.size) HSS.out hI1 hsc HSB.out.1 HSB.out.2
        have hfe:FE t.l=(K.best x.nd x.l sS x.r t.l).isSome:=by
         rw [HFE.out,Bool.eq_iff_iff,K.feas_iff M1.pl.ok HSB.out.1 HSB.out.2,Option.isSome_iff_exists]
         exact ⟨fun ⟨s2,t2,e1,e2⟩=>by rw [HSS.out] at e1;injection e1 with e1;subst e1;exact ⟨t2,e2⟩,fun ⟨t2,e2⟩=>⟨sS,t2,HSS.out,e2⟩⟩
        obtain ⟨T,hT⟩:∃ T,T=K.best x.nd x.l sS x.r t.l:=⟨_,rfl⟩
        rw [←hT] at CB hfe
        have HFT:=Lib.hid hfe
        clear hT hfe
        go_wp2_with fail
        refine CB.mono ?_
        rintro e wb ⟨⟨u',rfl,hTA⟩,hgb,hpb⟩
        have hGb:=(M1.pl.memo.ext hgb).cells _ _ _ _ hG1
        have M2:=M1.best hgb hpb
        have cGb:=blk_cell hGb 0 _ rfl
        clear CB hgb hpb M1 hG1 hI1 cG bAC
        cases T with
        | some bt =>
         obtain ⟨g,A8,n8,c8,A7,n7,c7,rfl,-⟩:=hTA
         have HN:=Lib.hid (A.ownGo_no (ok:=FE) (own:=[]) (L:=A.upto x.m k ++ (l.take j).map Sh.l) (v:=t.l) (.inr HFT.out))
         go_wp2_with fail
         go_roundw
         case rel=>exact ⟨j + 1,own',by go_num,by omega,M2,hnwI,h6I,by have:=HLI.out;omega,by show _=_;rw [HTK.out,←List.append_assoc,HN.out];exact hcI.out⟩
         case measure=>simp [intOf];omega
        | none =>
         obtain rfl:u'=.pointer none:=hTA
         have HN:=Lib.hid (A.ownGo_yes (ok:=FE) (own:=[]) (L:=A.upto x.m k ++ (l.take j).map Sh.l) (v:=t.l) (by rw [←hcI.out];exact HZ.out.symm) HFT.out)
         have hbs:BS≤wb.heap.size:=by have h2:=M2.gr.size;omega
         have bD:Below wb.heap.size wb (wb.alloc (.cells #[.slice t.A t.n t.c] 48)):=(Below.refl _ _).alloc (Nat.le_refl _) _
         have M3:=M2.below bD
         have hbs2:=Nat.le_trans hbs bD.size
         have hln:own'.length≤1000000:=by have:=HLI.out;omega
         clear M2 hGb
         go_wp2_with (at_builtin;refine app_shs rfl (.tmp 67) (.tmp 69) rfl BS (.slice E2 own'.length c2) own'.length own' rfl M3.row wb.heap.size t rfl (heap_alloc_new wb _) hln hbs2 ?_;intro v' w6 hown6 hgrow6 hat6)
         have M4:=M3.app HTM.out hgrow6 hat6 hown6 hBS
         clear M3 hown6 hgrow6 hat6 bD cGb
         go_roundw
         case rel=>exact ⟨j + 1,own' ++ [t],by go_num,by omega,M4,hnwI.snoc (hnE t HTM.out),fun y hy=>(List.mem_append.1 hy).elim (h6I y) (fun hy=>by rw [List.mem_singleton] at hy;rw [hy];exact h6),by rw [List.length_append];have:=HLI.out;simp;omega,by show _=_;rw [HTK.out,←List.append_assoc,HN.out,List.map_append,hcI.out];rfl⟩
         case measure=>simp [intOf];omega
      ·have j0:decide ((j:Int) < (m:Int))=false:=by simp;omega
       have hjm2:l.take j=l:=List.take_of_length_le (by have:=M.sh.1.1;omega)
       have HE:=Lib.hid (show own'.map Sh.l=A.ownGo FE [] (A.upto x.m kk) by rw [hcI.out,hjm2,hlD,HD.out,HKK.out,A.upto_succ])
       have HLI:=Lib.hid hlI
       clear hjm2 hlI
       go_wp2_with fail
       go_roundw
       case rel=>exact ⟨kk,own',rfl,by rw [HKK.out];omega,M.row,M.ok,hnwI,h6I,M.pl,M.gr,by have:=HLI.out;have:=HKK.out;omega,HE.out⟩
       case measure=>simp [intOf];have:=HKK.out;omega
    ·have k0:decide ((k:Int) < (x.m:Int))=false:=by simp;omega
     have hkm2:k=x.m:=by omega
     have HOWN:=Lib.hid (show own.map Sh.l=A.own FE x.m by rw [hcO.out,hkm2];rfl)
     obtain ⟨E,c,rfl,hSE,hnc,hEn⟩:=own_shs hownO rfl hroO
     clear hkm2
     have F0:Fin4 w1 wk b mb gb x shs u11 B1 bl E own.length own:=⟨hown.kept hgO (.inr fun e=>(hp.away mb e).2.2.1 rfl),hbo.ext (hp.memo.ext hgO),hpO.turn (fun g h=>.inl (.inl h)),hSE,fun h0 ad e e2=>(by have h1:=(own_in hown _ e2).2;have h2:=hEn ad e;omega),fun t ht=>⟨(hroO t ht).1,fun h0 ad e e2=>(by have h1:=(own_in hown _ e2).2;have h2:=hnwO t ht h0 ad e;omega)⟩⟩
     have hB1k:B1≤wk.heap.size:=by have:=hgO.size;omega
     have hol:own.length≤384:=by omega
     have HNW:=Lib.hid (show NewL w.heap.size own from hnwO.mono (by rw [hBS];exact Nat.le_trans hWB.out hBr))
     clear hown hbo hp hownO hroO hpO hgO hSE hEn hnwO hcO hBr
     go_wp2_with fail
     clear k0
     go_loopw [11,75] (fun v11 v75 wf=>∃ (j:Nat) (bl':List BV),v75=.int .i64 j∧j≤own.length∧Fin4 w1 wf b mb gb x shs v11 B1 bl' E own.length own∧NB w bl'∧B1≤wf.heap.size∧bl'.length=bl.length + j∧Hid (bl'.map BV.pr=bl.map BV.pr ++ (own.take j).map fun t=>((s:Int),t.l,K.labs x.nd x.l sS x.r t.l))) (fun _ v75 _=>own.length - (intOf v75).toNat)
     case atStart=>exact ⟨0,bl,rfl,Nat.zero_le _,F0,hnb,hB1k,rfl,by show _=_;rw [List.take_zero,List.map_nil,List.append_nil]⟩
     case round =>
      clear F0 hB1k
      obtain ⟨j,bl',rfl,hj,F,hnf,hBf,hlb,hcb⟩:=hrel
      obtain ⟨wf,hwf⟩:∃ wf,wf=wr:=⟨_,rfl⟩
      rw [←hwf] at F hBf
      rw [←hwf]
      clear hwf
      by_cases hjn:j < own.length
      ·obtain ⟨adE,t,rfl,hg,⟨hI,hsc,hs0⟩,hc⟩:=F.sh.at_ hjn
       obtain ⟨ads,s2,hSA,hs2,-,s0,s1,s2',s3,s4,s5⟩:=F.pl.case.shifts.at_ hlt
       rw [HSS.out] at hs2
       injection hs2 with hs2
       subst hs2
       rw [hSA]
       have hAt:At wf (x.one sS):=F.pl.one (List.mem_of_getElem? HSS.out)
       have SP:∀ w8:World,Below w1.heap.size w1 w8→(fun w':World=>w'.cell? ⟨G0,0,none⟩=some (.int .i64 x.nd)∧w'.cell? ⟨G0,1,none⟩=some (.slice x.A x.n x.c)∧w'.cell? (ads.add (s * 6))=some (.int .i64 sS.day)∧w'.cell? ⟨(ads.add (s * 6)).block,(ads.add (s * 6)).off + 1,none⟩=some (.int .i64 sS.depot)∧w'.cell? ⟨(ads.add (s * 6)).block,(ads.add (s * 6)).off + 2,none⟩=some (.int .i64 sS.start)∧w'.cell? ⟨(ads.add (s * 6)).block,(ads.add (s * 6)).off + 3,none⟩=some (.int .i64 sS.end_)∧w'.cell? ⟨(ads.add (s * 6)).block,(ads.add (s * 6)).off + 4,none⟩=some (.int .i64 sS.tare)∧w'.cell? ⟨(ads.add (s * 6)).block,(ads.add (s * 6)).off + 5,none⟩=some (.slice sS.A sS.n sS.c)) w8:=fun w8 hb=>⟨(hN1.below hb).c0,(hN1.below hb).c1,(hb.cell (cell_lt s0)).trans s0,(hb.cell (cell_lt s1)).trans s1,(hb.cell (cell_lt s2')).trans s2',(hb.cell (cell_lt s3)).trans s3,(hb.cell (cell_lt s4)).trans s4,(hb.cell (cell_lt s5)).trans s5⟩
       have S0:=SP wf F.pl.bw
       have S0d:=SP wf.drew (bel F.pl.bw (Below.refl _ _).drew)
       have hbdr:Below wf.heap.size wf wf.drew:=(Below.refl _ _).drew
       have j0:decide ((j:Int) < (own.length:Int))=true:=by simp;omega
       have js:IntKind.i64.wrap ((j:Int) + 1)=((j + 1:Nat):Int):=by rw [IntWalk.i64_in _ (by omega)];omega
       have htm:=List.mem_of_getElem? hg
       have h6:=h6O t htm
       have htk:(own.take (j + 1)).map (fun t=>((s:Int),t.l,K.labs x.nd x.l sS x.r t.l))=(own.take j).map (fun t=>((s:Int),t.l,K.labs x.nd x.l sS x.r t.l)) ++ [((s:Int),t.l,K.labs x.nd x.l sS x.r t.l)]:=by rw [List.take_add_one,hg,List.map_append];rfl
       have HTK:=Lib.hid htk
       have HLB:=Lib.hid hlb
       have HSA:=Lib.hid hSA
       have hofft:OffRow t.A t.n u11:=fun h0 ad e=>(F.lk t htm).2 h0 ad e
       clear hg htk hlb hSA s0 s1 s2' s3 s4 s5
       go_upto_region 26 with fail
       have k0:(0:Int)≤(s:Int):=by omega
       have k1:(s:Int) < (x.sn:Int):=by omega
       have h69:t.n≤1000000000:=by omega
       have hvl:t.l.length≤6:=by rw [←hI.1];exact h6
       have hln:bl'.length≤1000000:=by have:=HLB.out;omega
       go_region_held3 (fun w':World=>w'.cell? ⟨G0,0,none⟩=some (.int .i64 x.nd)∧w'.cell? ⟨G0,1,none⟩=some (.slice x.A x.n x.c)∧w'.cell? (ads.add (s * 6))=some (.int .i64 sS.day)∧w'.cell? ⟨(ads.add (s * 6)).block,(ads.add (s * 6)).off + 1,none⟩=some (.int .i64 sS.depot)∧w'.cell? ⟨(ads.add (s * 6)).block,(ads.add (s * 6)).off + 2,none⟩=some (.int .i64 sS.start)∧w'.cell? ⟨(ads.add (s * 6)).block,(ads.add (s * 6)).off + 3,none⟩=some (.int .i64 sS.end_)∧w'.cell? ⟨(ads.add (s * 6)).block,(ads.add (s * 6)).off + 4,none⟩=some (.int .i64 sS.tare)∧w'.cell? ⟨(ads.add (s * 6)).block,(ads.add (s * 6)).off + 5,none⟩=some (.slice sS.A sS.n sS.c))
        (first | with_reducible exact S10 | with_reducible exact S9a | with_reducible exact S9 | with_reducible exact S0d | with_reducible exact S0 | fail)
        (first
         | (go_at_call 78;refine (labels39_new (x.one sS) t.A t.n t.c t.l _ (hAt.below hbdr) (hI.below hbdr) hsc h69).mono ?_;rintro e w9 ⟨⟨LA,ln,lc,rfl,hL9,hLn9⟩,b9⟩;have F9:=F.below (bel hbdr b9);have hB9:B1≤w9.heap.size:=Nat.le_trans hBf (bel hbdr b9).size;have a9:Below w9.heap.size w9 (w9.alloc (.cells #[.int .i64 (s:Int),.slice t.A t.n t.c,.slice LA ln lc] 90)):=(Below.refl _ _).alloc (Nat.le_refl _) _;have S9:=SP w9 F9.pl.bw;have S9a:=SP _ (F9.below a9).pl.bw;have hoL:OffRow LA ln u11:=fun h0 ad e e2=>(by have h1:=(own_in F.row _ e2).2;have h2:=hLn9 ad e;have h3:=hbdr.size;omega);have hll:ln≤384:=(by have h1:=hL9.1;have h2:(K.labs x.nd x.l sS x.r t.l).length≤384:=K.labs_len6 hvl;have h3:ln=(K.labs x.nd x.l sS x.r t.l).length:=h1;omega))
         | (refine step_app_blk rfl (.tmp 79) (.tmp 91) rfl F9.row hB9 rfl w9.heap.size ⟨s,t.A,t.n,t.c,t.l,LA,ln,lc,K.labs x.nd x.l sS x.r t.l⟩ rfl a9 (heap_alloc_new w9 _) hln ?_;intro v' w10 hown10 hgrow10 hat10;have F10:=(F9.below a9).app ⟨⟨(hI.below (bel hbdr b9)).below a9,Lst.below hL9 a9⟩,hofft,hoL,hsc,h6,hll⟩ hgrow10 hat10 hown10;have S10:=SP w10 F10.pl.bw)
         | fail)
       have hB10:B1≤w10.heap.size:=by have h1:=hgrow10.size;have h2:=a9.size;omega
       have hnf2:NB w (bl' ++ [(⟨s,t.A,t.n,t.c,t.l,LA,ln,lc,K.labs x.nd x.l sS x.r t.l⟩:BV)]):=hnf.snoc (fun h0 ad e=>HNW.out t htm h0 ad e) (fun _ ad e=>by have h1:=hLn9 ad e;have h2:=F.pl.bw.size;have h3:=hb1.size;have h4:=hbdr.size;omega)
       clear F F9 S0 S0d S9 S9a S10 SP hL9 hLn9 a9 b9 hown10 hgrow10 hat10 hbdr hAt hc hI
       go_wp2_with fail
       go_roundw
       case rel=>exact ⟨j + 1,bl' ++ [⟨s,t.A,t.n,t.c,t.l,LA,ln,lc,K.labs x.nd x.l sS x.r t.l⟩],by go_num,by omega,F10,hnf2,hB10,by rw [List.length_append,HLB.out];simp;omega,by show _=_;rw [HTK.out,←List.append_assoc,←hcb.out,List.map_append];rfl⟩
       case measure=>simp [intOf];omega
      ·have j0:decide ((j:Int) < (own.length:Int))=false:=by simp;omega
       have ks:IntKind.i64.wrap ((s:Int) + 1)=((s + 1:Nat):Int):=by rw [IntWalk.i64_in _ (by omega)];omega
       have hjn2:own.take j=own:=List.take_of_length_le (by omega)
       have HNX:=Lib.hid (show bl'.map BV.pr=K.blksUpto x.nd x.l x.ss x.r (s + 1) by
        rw [K.blksUpto_succ,←hcl.out,hcb.out,hjn2,←HRN.out,←HFE.out,←HOWN.out,List.map_map]
        congr 1
        refine List.map_congr_left fun t _=>?_
        show _=((s:Int),t.l,_)
        rw [HSS.out])
       have HLB:=Lib.hid hlb
       clear hjn2 hlb
       go_wp2_with fail
       go_roundw
       case rel=>exact ⟨s + 1,bl',by go_num,hlt,F.row,F.ok,hnf,F.pl,hBf,by have:=HLB.out;omega,HNX.out⟩
       case measure=>simp [intOf];omega
  ·have hse:s=x.ss.length:=by have:=HSN.out;omega
   have j0:decide ((s:Int) < (x.sn:Int))=false:=by simp;omega
   obtain ⟨A9,c9,rfl,hRd,hF9⟩:=own_form hown
   have hnc9:bl.length≤c9:=by
    obtain ⟨-,⟨e,e0⟩ | ⟨g',cap,cur,e,-,-,h9,-⟩⟩:=hown
    ·rw [e0];exact Nat.zero_le _
    ·injection e with e1 e2 e3;rw [e3];exact h9
   have HB:=Lib.hid (show bl.map BV.pr=(K.refute x.nd x.l x.ss x.r).1.map fun b=>((b.1:Int),b.2) by rw [HR.out,K.blksUpto_all,←hse];exact hcl.out)
   have HX:=Lib.hid (show (K.refute x.nd x.l x.ss x.r).2=0 by rw [HR.out])
   have hbn:bl.length≤1000000000:=by omega
   clear hse hown
   go_wp2_with fail
   go_ret2
   rw [HX.out]
   exact ⟨⟨A9,bl.length,c9,bl,rfl,⟨⟨rfl,hRd⟩,fun y hy=>(hbo y hy).1⟩,hnc9,⟨hbn,fun y hy=>by obtain ⟨-,-,-,h1,h2,h3⟩:=hbo y hy;exact ⟨h1,by omega,by omega⟩⟩,HB.out,fun ad e=>Nat.le_trans hWB.out (hF9 _ (by rw [e];rfl)).1,hnb⟩,bel hb1 hp.bw⟩
theorem refute32_any (x:Cs) (w:World) (hx:CsAt w x) :
  Calls Tryz.prog 22 #[.agg #[.int .i64 x.nd,.slice x.A x.n x.c],.slice x.SA x.sn x.sc,.slice x.B x.m x.d] w fun e w'=>RetRefute w w' ((K.refute x.nd x.l x.ss x.r).1.map fun b=>((b.1:Int),b.2)) (K.refute x.nd x.l x.ss x.r).2 e :=
 (refute32X x w hx).mono fun _ _ ⟨⟨A,n,c,bl,h1,h2,h3,h4,h5,_,_⟩,hb⟩=>⟨⟨A,n,c,bl,h1,h2,h3,h4,h5⟩,hb⟩
end Go.Proofs.YtippdjmpkafifaaGreat
