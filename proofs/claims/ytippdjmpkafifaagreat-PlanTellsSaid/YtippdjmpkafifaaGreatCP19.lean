import Derived.Test.YtippdjmpkafifaaGreatCP17
import Derived.Test.YtippdjmpkafifaaGreatCP9
import Derived.Test.YtippdjmpkafifaaGreatCP14
import Derived.Test.YtippdjmpkafifaaGreatCP18
import Derived.Test.YtippdjmpkafifaaGreatCP15
namespace Go.Proofs.YtippdjmpkafifaaGreat
open Go.RowKit
set_option maxRecDepth 100000 in
set_option maxHeartbeats 16000000 in
theorem blocks31_any (x:C) (sh:Int) (V:Option Addr) (vn vc:Nat) (v:List Int) (LA:Option Addr) (ln lc:Nat) (l:List Lb) (w:World) (hx:At w x) (hV:Ints w V vn v) (hvn:vn≤1000000000) (hL:Labs w LA ln l) (hln:ln≤1000000000) :
  Calls Tryz.prog 90 #[.agg #[.int .i64 x.nd,.slice x.A x.n x.c],.agg #[.int .i64 x.s.day,.int .i64 x.s.depot,.int .i64 x.s.start,.int .i64 x.s.end_,.int .i64 x.s.tare,.slice x.s.A x.s.n x.s.c],.slice x.B x.m x.d,.agg #[.int .i64 sh,.slice V vn vc,.slice LA ln lc]] w fun e w'=>e=.returned (.bool (K.blocks x.nd x.l x.s x.r v l))∧Below w.heap.size w w':=by
 obtain ⟨w1,hw1⟩:∃ w1:World,w1=w.alloc (.cells #[.int .i64 x.nd,.slice x.A x.n x.c] 24):=⟨_,rfl⟩
 obtain ⟨w2,hw2⟩:∃ w2:World,w2=w1.alloc (.cells #[.int .i64 x.s.day,.int .i64 x.s.depot,.int .i64 x.s.start,.int .i64 x.s.end_,.int .i64 x.s.tare,.slice x.s.A x.s.n x.s.c] 63):=⟨_,rfl⟩
 obtain ⟨w3,hw3⟩:∃ w3:World,w3=w2.alloc (.cells #[.int .i64 sh,.slice V vn vc,.slice LA ln lc] 90):=⟨_,rfl⟩
 have z1:w1.heap.size=w.heap.size + 1:=by rw [hw1];exact World.size_alloc _ _
 have z2:w2.heap.size=w.heap.size + 1 + 1:=by rw [hw2,World.size_alloc,z1]
 have b01:Below w.heap.size w w1:=by rw [hw1];exact (Below.refl _ _).alloc (Nat.le_refl _) _
 have b12:Below w1.heap.size w1 w2:=by rw [hw2];exact (Below.refl _ _).alloc (Nat.le_refl _) _
 have b23:Below w2.heap.size w2 w3:=by rw [hw3];exact (Below.refl _ _).alloc (Nat.le_refl _) _
 have hP:Net w3 w.heap.size x.nd x.A x.n x.c:=by
  have h1:Net w1 w.heap.size x.nd x.A x.n x.c:=by rw [hw1];exact Net.new _ _ _ _ _
  exact (h1.below b12).below b23
 have hS:Shf w3 (w.heap.size + 1) x.s:=by
  have h1:Shf w2 (w.heap.size + 1) x.s:=by rw [←z1,hw2];exact Shf.new _ _
  exact h1.below b23
 have hB:w3.heap[w.heap.size + 1 + 1]? = some (.cells #[.int .i64 sh,.slice V vn vc,.slice LA ln lc] 90 (0,0)):=by rw [←z2,hw3];exact heap_alloc_new _ _
 have hb:=bel (bel b01 b12) b23
 have HLN:=Lib.hid hV.1
 go_enter Tryz.func90,Tryz.ntmps90
 go_upto_region 1 with fail
 rw [←hw1,←hw2,←hw3]
 clear hw1 hw2 hw3 z1 z2 b01 b12 b23
 have hmk:∀ w',Below w3.heap.size w3 w'→(fun w':World=>Below w3.heap.size w3 w'∧w'.cell? ⟨w.heap.size,0,none⟩=some (.int .i64 x.nd)∧w'.cell? ⟨w.heap.size,1,none⟩=some (.slice x.A x.n x.c)∧w'.cell? ⟨w.heap.size + 1,0,none⟩=some (.int .i64 x.s.day)∧w'.cell? ⟨w.heap.size + 1,1,none⟩=some (.int .i64 x.s.depot)∧w'.cell? ⟨w.heap.size + 1,2,none⟩=some (.int .i64 x.s.start)∧w'.cell? ⟨w.heap.size + 1,3,none⟩=some (.int .i64 x.s.end_)∧w'.cell? ⟨w.heap.size + 1,4,none⟩=some (.int .i64 x.s.tare)∧w'.cell? ⟨w.heap.size + 1,5,none⟩=some (.slice x.s.A x.s.n x.s.c)∧w'.cell? ⟨w.heap.size + 1 + 1,0,none⟩=some (.int .i64 sh)∧w'.cell? ⟨w.heap.size + 1 + 1,1,none⟩=some (.slice V vn vc)∧w'.cell? ⟨w.heap.size + 1 + 1,2,none⟩=some (.slice LA ln lc)) w':=fun w' h=>⟨h,(hP.below h).c0,(hP.below h).c1,(hS.below h).cells.1,(hS.below h).cells.2.1,(hS.below h).cells.2.2.1,(hS.below h).cells.2.2.2.1,(hS.below h).cells.2.2.2.2.1,(hS.below h).cells.2.2.2.2.2,blk_cell (blk_below h hB) 0 _ rfl,blk_cell (blk_below h hB) 1 _ rfl,blk_cell (blk_below h hB) 2 _ rfl⟩
 have hXx:∀ w',Below w3.heap.size w3 w'→At w' x:=fun w' h=>(hx.below hb).below h
 have hVx:∀ w',Below w3.heap.size w3 w'→Ints w' V vn v:=fun w' h=>(hV.below hb).below h
 cases hokb:K.ok31 x.nd x.l x.s x.r v
 ·have HX:=Lib.hid (show K.blocks x.nd x.l x.s x.r v l=false by simp [K.blocks,hokb])
  have C:∀ j:Beh w3,Calls Tryz.prog 130 #[.agg #[.int .i64 x.nd,.slice x.A x.n x.c],.agg #[.int .i64 x.s.day,.int .i64 x.s.depot,.int .i64 x.s.start,.int .i64 x.s.end_,.int .i64 x.s.tare,.slice x.s.A x.s.n x.s.c],.slice x.B x.m x.d,.slice V vn vc] j.val fun e w'=>e=.returned (.bool false)∧Below j.val.heap.size j.val w':=fun j=>by
   have h:=right31_any x V vn vc v j.val (hXx _ j.property) (hVx _ j.property) hvn
   rw [hokb] at h
   exact h
  clear hokb hXx hVx
  obtain ⟨-,p0,p1,s0,s1,s2,s3,s4,s5,b0,b1,b2⟩:=hmk _ (Below.refl _ _)
  have p0:=Beh.cell p0
  have p1:=Beh.cell p1
  have s0:=Beh.cell s0
  have s1:=Beh.cell s1
  have s2:=Beh.cell s2
  have s3:=Beh.cell s3
  have s4:=Beh.cell s4
  have s5:=Beh.cell s5
  have b0:=Beh.cell b0
  have b1:=Beh.cell b1
  have b2:=Beh.cell b2
  clear hmk
  refine reg_beh (by kernel_rfl) (by kernel_rfl) ?_
  repeat (go_big_quiet_step ((go_at_call 130;exact Beh.calls (C _))))
  refine wpQuiet_nil ?_
  rintro w4 ⟨⟨_,b34⟩,rfl⟩
  go_wp2_with fail
  go_ret
  exact ⟨ret_b HX.out.symm,bel hb b34⟩
 have hv6:vn≤6:=by rw [hV.1];exact (K.ok31_parts hokb).2.2.2.2.1
 have HOK:=Lib.hid hokb
 have HC34:=Lib.hid (show ∀ j:Beh w3,Calls Tryz.prog 130 #[.agg #[.int .i64 x.nd,.slice x.A x.n x.c],.agg #[.int .i64 x.s.day,.int .i64 x.s.depot,.int .i64 x.s.start,.int .i64 x.s.end_,.int .i64 x.s.tare,.slice x.s.A x.s.n x.s.c],.slice x.B x.m x.d,.slice V vn vc] j.val fun e w'=>e=.returned (.bool true)∧Below j.val.heap.size j.val w' from fun j=>by
   have h:=right31_any x V vn vc v j.val (hXx _ j.property) (hVx _ j.property) hvn
   rw [hokb] at h
   exact h)
 clear hokb
 cases hv0:((vn:Int) == 0)
 rotate_left
 ·have h0:vn=0:=by simpa using hv0
  have hv0n:(vn == 0)=true:=by simp [h0]
  have HX:=Lib.hid (show K.blocks x.nd x.l x.s x.r v l=false by
   have h1:v.length=0:=by rw [←HLN.out];exact h0
   simp [K.blocks,h1])
  have C:=HC34.out
  clear hXx hVx h0
  obtain ⟨-,p0,p1,s0,s1,s2,s3,s4,s5,b0,b1,b2⟩:=hmk _ (Below.refl _ _)
  have p0:=Beh.cell p0
  have p1:=Beh.cell p1
  have s0:=Beh.cell s0
  have s1:=Beh.cell s1
  have s2:=Beh.cell s2
  have s3:=Beh.cell s3
  have s4:=Beh.cell s4
  have s5:=Beh.cell s5
  have b0:=Beh.cell b0
  have b1:=Beh.cell b1
  have b2:=Beh.cell b2
  clear hmk
  refine reg_beh (by kernel_rfl) (by kernel_rfl) ?_
  repeat (go_big_quiet_step ((go_at_call 130;exact Beh.calls (C _))))
  refine wpQuiet_nil ?_
  rintro w4 ⟨⟨_,b34⟩,rfl⟩
  go_wp2_with fail
  go_ret
  exact ⟨ret_b HX.out.symm,bel hb b34⟩
 have hv0n:(vn == 0)=false:=by have:¬ vn=0:=by simpa using hv0
                               simpa using this
 have HV0:=Lib.hid (show ¬ vn=0 by simpa using hv0)
 have S0:=hmk _ (Below.refl _ _)
 have hSd:∀ w',(fun w':World=>Below w3.heap.size w3 w'∧w'.cell? ⟨w.heap.size,0,none⟩=some (.int .i64 x.nd)∧w'.cell? ⟨w.heap.size,1,none⟩=some (.slice x.A x.n x.c)∧w'.cell? ⟨w.heap.size + 1,0,none⟩=some (.int .i64 x.s.day)∧w'.cell? ⟨w.heap.size + 1,1,none⟩=some (.int .i64 x.s.depot)∧w'.cell? ⟨w.heap.size + 1,2,none⟩=some (.int .i64 x.s.start)∧w'.cell? ⟨w.heap.size + 1,3,none⟩=some (.int .i64 x.s.end_)∧w'.cell? ⟨w.heap.size + 1,4,none⟩=some (.int .i64 x.s.tare)∧w'.cell? ⟨w.heap.size + 1,5,none⟩=some (.slice x.s.A x.s.n x.s.c)∧w'.cell? ⟨w.heap.size + 1 + 1,0,none⟩=some (.int .i64 sh)∧w'.cell? ⟨w.heap.size + 1 + 1,1,none⟩=some (.slice V vn vc)∧w'.cell? ⟨w.heap.size + 1 + 1,2,none⟩=some (.slice LA ln lc)) w'→(fun w':World=>Below w3.heap.size w3 w'∧w'.cell? ⟨w.heap.size,0,none⟩=some (.int .i64 x.nd)∧w'.cell? ⟨w.heap.size,1,none⟩=some (.slice x.A x.n x.c)∧w'.cell? ⟨w.heap.size + 1,0,none⟩=some (.int .i64 x.s.day)∧w'.cell? ⟨w.heap.size + 1,1,none⟩=some (.int .i64 x.s.depot)∧w'.cell? ⟨w.heap.size + 1,2,none⟩=some (.int .i64 x.s.start)∧w'.cell? ⟨w.heap.size + 1,3,none⟩=some (.int .i64 x.s.end_)∧w'.cell? ⟨w.heap.size + 1,4,none⟩=some (.int .i64 x.s.tare)∧w'.cell? ⟨w.heap.size + 1,5,none⟩=some (.slice x.s.A x.s.n x.s.c)∧w'.cell? ⟨w.heap.size + 1 + 1,0,none⟩=some (.int .i64 sh)∧w'.cell? ⟨w.heap.size + 1 + 1,1,none⟩=some (.slice V vn vc)∧w'.cell? ⟨w.heap.size + 1 + 1,2,none⟩=some (.slice LA ln lc)) w'.drew:=fun w' h=>hmk _ h.1.drew
 have hLx:∀ w',Below w3.heap.size w3 w'→Labs w' LA ln l:=fun w' h=>Lst.below hL (bel hb h)
 go_region_held3 (fun w':World=>Below w3.heap.size w3 w'∧w'.cell? ⟨w.heap.size,0,none⟩=some (.int .i64 x.nd)∧w'.cell? ⟨w.heap.size,1,none⟩=some (.slice x.A x.n x.c)∧w'.cell? ⟨w.heap.size + 1,0,none⟩=some (.int .i64 x.s.day)∧w'.cell? ⟨w.heap.size + 1,1,none⟩=some (.int .i64 x.s.depot)∧w'.cell? ⟨w.heap.size + 1,2,none⟩=some (.int .i64 x.s.start)∧w'.cell? ⟨w.heap.size + 1,3,none⟩=some (.int .i64 x.s.end_)∧w'.cell? ⟨w.heap.size + 1,4,none⟩=some (.int .i64 x.s.tare)∧w'.cell? ⟨w.heap.size + 1,5,none⟩=some (.slice x.s.A x.s.n x.s.c)∧w'.cell? ⟨w.heap.size + 1 + 1,0,none⟩=some (.int .i64 sh)∧w'.cell? ⟨w.heap.size + 1 + 1,1,none⟩=some (.slice V vn vc)∧w'.cell? ⟨w.heap.size + 1 + 1,2,none⟩=some (.slice LA ln lc))
  (first | assumption | exact S0 | exact hSd _ (by assumption))
  (first
   | (go_at_call 130;refine (HC34.out ⟨_,And.left (by assumption)⟩).mono ?_;rintro e w4 ⟨rfl,bb⟩;have S4:=hmk _ (bel (And.left (by assumption)) bb))
   | (go_at_call 82;refine (labels31_any x V vn vc v _ (hXx _ S4.1) (hVx _ S4.1) hvn).mono ?_;rintro e w6 ⟨⟨A6,n6,c6,rfl,hI6⟩,b6⟩;have S6:=hmk _ (bel S4.1 b6))
   | (go_at_call 83;refine (samelab_any LA A6 ln n6 lc c6 l (K.labs x.nd x.l x.s x.r v) w6 (hLx _ S6.1) hI6 hln (by rw [hI6.1];exact Nat.le_trans (K.labs_len _ _ _ _ _) (by omega))).mono ?_;rintro e w7 ⟨rfl,b7⟩;have S7:=hmk _ (bel S6.1 b7))
   | fail)
 obtain ⟨z,hz⟩:∃ z,z=decide (l=K.labs x.nd x.l x.s x.r v):=⟨_,rfl⟩
 rw [←hz]
 have HZ:=Lib.hid hz
 have b37:=S7.1
 have hP:=hP.below b37
 have hS:=hS.below b37
 have hB:=blk_below b37 hB
 have hb7:=bel hb b37
 clear S0 S4 S6 S7 hSd hmk hXx hVx hLx hI6 bb b6 b7 hz b37
 cases z
 ·have HX:=Lib.hid (show K.blocks x.nd x.l x.s x.r v l=false by unfold K.blocks;rw [←HZ.out];simp)
  go_wp2_with fail
  go_ret
  exact ⟨ret_b HX.out.symm,hb7⟩
 have hll:l=K.labs x.nd x.l x.s x.r v:=of_decide_eq_true HZ.out.symm
 obtain ⟨N,hN⟩:∃ N,N=2 ^ vn:=⟨_,rfl⟩
 have hN1:1≤N:=by rw [hN];exact Nat.two_pow_pos vn
 have hN64:N≤64:=by rw [hN];exact Nat.pow_le_pow_right (by omega) hv6
 have hw1:IntKind.i64.wrap ((2:Int) ^ vn)=(N:Int):=by rw [wrap_pow (by omega),hN];simp
 have hw2:wrap64 ((2:Int) ^ vn)=(N:Int):=by rw [←IntWalk.i64_left];exact hw1
 have HNN:=Lib.hid hN
 have HW1:=Lib.hid hw1
 have HW2:=Lib.hid hw2
 clear hN hw1 hw2
 obtain ⟨al,hal⟩:∃ al,al=N - 1:=⟨_,rfl⟩
 have HW3:=Lib.hid (show IntKind.i64.wrap ((N:Int) - 1)=(al:Int) by rw [IntWalk.i64_in _ (by omega)];omega)
 have HW4:=Lib.hid (show wrap64 ((N:Int) - 1)=(al:Int) by rw [←IntWalk.i64_left];exact HW3.out)
 have HAL:=Lib.hid (show al=2 ^ v.length - 1 by rw [hal,HNN.out,HLN.out])
 have HX:=Lib.hid (show K.blocks x.nd x.l x.s x.r v l=!((l.drop 0).any (K.opensAt x.nd x.l x.s x.r v al)) by
  unfold K.blocks
  rw [←HZ.out,HOK.out,HAL.out,List.drop_zero]
  have h0:(v.length == 0)=false:=by have:=HV0.out;rw [HLN.out] at this;simpa using this
  rw [h0]
  simp)
 have HLL:=Lib.hid hll
 clear hll hal
 obtain ⟨s0,s1,s2,s3,s4,s5⟩:=hS.cells
 have e1:=blk_cell hB 1 _ rfl
 go_wp2_with fail
 refine (rweight_any x.s x.B x.m x.d x.r V vn vc v _ (hx.below hb7).rooms hx.b2 (hx.below hb7).reqs hx.b3 hx.b4 (hV.below hb7) hvn).mono ?_
 obtain ⟨wt,hwt⟩:∃ wt,wt=T.weight x.s x.r v:=⟨_,rfl⟩
 rw [←hwt]
 rintro e w8 ⟨rfl,b78⟩
 have HWT:=Lib.hid hwt
 have hP:=hP.below b78
 have hS:=hS.below b78
 have hB:=blk_below b78 hB
 have hb8:=bel hb7 b78
 clear s0 s1 s2 s3 s4 s5 e1 hwt
 obtain ⟨hne,hck,hdp,-,-,-⟩:=K.ok31_parts HOK.out
 obtain ⟨-,⟨d0,-⟩,st0,st1,en1⟩:=K.check_parts hck
 obtain ⟨dp,hdpn⟩:∃ dp:Nat,x.s.depot=(dp:Int):=⟨x.s.depot.toNat,by omega⟩
 have HNE:=Lib.hid hne
 have HDP:=Lib.hid hdpn
 have hdpl:(dp:Int) < x.nd:=by rw [←hdpn];exact hdp
 clear hne hck hdp hdpn d0
 go_wp2_with fail
 go_loopw [10] (fun v10 wr=>∃ k:Nat,v10=.int .i64 k∧k≤ln∧Hid (K.blocks x.nd x.l x.s x.r v l=!((l.drop k).any (K.opensAt x.nd x.l x.s x.r v al)))∧Below w8.heap.size w8 wr) (fun v10 _=>ln - (intOf v10).toNat)
 case atStart=>exact ⟨0,rfl,Nat.zero_le _,HX.out,Below.refl _ _⟩
 case round =>
  clear HX
  obtain ⟨k,rfl,hk,hbk,hbr⟩:=hrel
  have hb:=bel hb8 hbr
  have b2:=blk_cell (blk_below hbr hB) 2 _ rfl
  by_cases hlt:k < ln
  ·obtain ⟨adk,y,rfl,hgy,c0,c1,c2⟩:=Labs.at_ (Lst.below hL hb) hlt
   have HBK:=Lib.hid (show K.blocks x.nd x.l x.s x.r v l=!(K.opensAt x.nd x.l x.s x.r v al y || (l.drop (k + 1)).any (K.opensAt x.nd x.l x.s x.r v al)) by rw [hbk.out,drop_any hgy])
   obtain ⟨m,i,hm,hi,hbit,hy⟩:=K.mem_labs HOK.out (by rw [←HLL.out];exact List.mem_of_getElem? hgy)
   subst hy
   dsimp only at c0 c1 c2
   rw [←HLN.out] at hi
   have hLb:=K.lab_bd (nd:=x.nd) (l:=x.l) (s:=x.s) (r:=x.r) (K.case31 HOK.out) m i
   obtain ⟨L,hL'⟩:∃ L,L=K.lab x.nd x.l x.s x.r v m i:=⟨_,rfl⟩
   have HBK':=HBK.out
   rw [←hL'] at c2 hLb HBK'
   have HBL:=Lib.hid HBK'
   clear hgy hm hbit HBK HBK' hL'
   obtain ⟨adv,kv,rfl,hkv,ci⟩:=(hV.below hb).at_ hi
   obtain ⟨d,dn,q,hkd,hd,hdq,hreq,hdn,hdn1,qs0,qs1⟩:=elem_at HOK.out hkv
   subst hkd
   have hdm:d < x.m:=by rw [hx.reqs.1];exact hd
   obtain ⟨adq,q2,hqB,hgq,hwq,e0,-⟩:=((hx.below hb).reqs).at_ hdm
   rw [hdq] at hgq
   injection hgq with hgq
   subst hgq
   rw [hdn] at e0
   obtain ⟨y,hy⟩:∃ y,y=K.way x.nd x.l (dn:Int) wt (dp:Int):=⟨_,rfl⟩
   have hyb:=K.way_bd x.nd x.l (dn:Int) wt (dp:Int)
   rw [←hy] at hyb
   have HY:=Lib.hid hy
   have HOP:=Lib.hid (show K.opensAt x.nd x.l x.s x.r v al ⟨m,i,L⟩=(((m:Int) == (al:Int)) && ((L != -1) && ((y != -1) && decide (L + y≤x.s.end_)))) by
    unfold K.opensAt
    dsimp only
    rw [Int.toNat_natCast,hkv,Option.getD_some,hreq,hdn,HAL.out,K.part_full,←HWT.out,HDP.out,←hy]
    rfl)
   obtain ⟨w9,hw9⟩:∃ w9:World,w9=wr.alloc (.cells #[.int .i64 (m:Int),.int .i64 (i:Int),.int .i64 L] 167):=⟨_,rfl⟩
   have b9:Below wr.heap.size wr w9:=by rw [hw9];exact (Below.refl _ _).alloc (Nat.le_refl _) _
   have hY9:w9.heap[wr.heap.size]? = some (.cells #[.int .i64 (m:Int),.int .i64 (i:Int),.int .i64 L] 167 (0,0)):=by rw [hw9];exact heap_alloc_new _ _
   have hbr9:=bel hbr b9
   have hb9:=bel hb8 hbr9
   have ci:=(b9.cell (cell_lt ci)).trans ci
   have e0:=(b9.cell (cell_lt e0)).trans e0
   have kk0:(0:Int)≤(k:Int):=by omega
   have kk1:(k:Int) < (ln:Int):=by omega
   have kk2:decide ((k:Int) < (ln:Int))=true:=decide_eq_true kk1
   have kk2n:decide (k < ln)=true:=decide_eq_true hlt
   have HQB:=Lib.hid hqB
   have HDM:=Lib.hid (show (d:Int) < (x.m:Int) by omega)
   clear hy hkv hd hdq hreq hdn hqB hwq qs0 qs1 hdm
   go_upto_region 8 with fail
   rw [←hw9]
   clear hw9 c0 c1 c2 b2 kk0 kk1 kk2 kk2n
   have l0:=blk_cell hY9 0 _ rfl
   have l1:=blk_cell hY9 1 _ rfl
   have l2:=blk_cell hY9 2 _ rfl
   have hB9:=blk_below hbr9 hB
   have f1:=blk_cell hB9 1 _ rfl
   have f2:=blk_cell hB9 2 _ rfl
   have hw1:=HW1.out
   have hw2:=HW2.out
   have hw3:=HW3.out
   have hw4:=HW4.out
   cases hma:((m:Int) == (al:Int))
   ·have HN:=Lib.hid (show K.blocks x.nd x.l x.s x.r v l=!((l.drop (k + 1)).any (K.opensAt x.nd x.l x.s x.r v al)) by rw [HBL.out,HOP.out,hma];rfl)
    have hman:(m == al)=false:=by have:¬ (m:Int)=(al:Int):=by simpa using hma
                                  simp;omega
    clear HBL HOP
    go_quiet (fail)
    clear hw1 hw2 hw3 hw4
    go_wp2_with fail
    go_roundw
    case rel=>exact ⟨k + 1,by go_num,hlt,HN.out,below_drewN hbr9 _⟩
    case measure=>simp [intOf];omega
   have hman:(m == al)=true:=by have:(m:Int)=(al:Int):=by simpa using hma
                                simp;omega
   by_cases hL0:0≤L
   rotate_left
   ·have g1:decide (0≤L)=false:=decide_eq_false hL0
    have HN:=Lib.hid (show K.blocks x.nd x.l x.s x.r v l=!((l.drop (k + 1)).any (K.opensAt x.nd x.l x.s x.r v al)) by
     have h1:(L != -1)=false:=by have:L=-1:=by omega
                                 simp [this]
     rw [HBL.out,HOP.out,h1];simp)
    clear HBL HOP
    go_quiet (fail)
    clear hw1 hw2 hw3 hw4
    go_wp2_with fail
    go_roundw
    case rel=>exact ⟨k + 1,by go_num,hlt,HN.out,below_drewN hbr9 _⟩
    case measure=>simp [intOf];omega
   have g1:decide (0≤L)=true:=decide_eq_true hL0
   have h1:(L != -1)=true:=by have:¬ L=-1:=by omega
                              simpa using this
   have HOP2:=Lib.hid (show K.opensAt x.nd x.l x.s x.r v al ⟨m,i,L⟩=((y != -1) && decide (L + y≤x.s.end_)) by rw [HOP.out,hma,h1];rfl)
   clear HOP h1
   go_quiet (fail)
   obtain ⟨wa,hwa⟩:∃ wa:World,wa=w9.drewN nq:=⟨_,rfl⟩
   rw [←hwa]
   have b9a:Below w9.heap.size w9 wa:=by rw [hwa];exact below_drewN (Below.refl _ _) _
   clear hwa hw1 hw2 hw3 hw4 l0 l1 l2 f1 f2 hma hman g1
   go_upto_region 9 with fail
   have hbra:=bel hbr9 b9a
   have hYa:=blk_below b9a hY9
   have l1:=blk_cell hYa 1 _ rfl
   have f1:=blk_cell (blk_below b9a hB9) 1 _ rfl
   have ci:=(b9a.cell (cell_lt ci)).trans ci
   have e0:=(b9a.cell (cell_lt e0)).trans e0
   have p0:=(hP.below hbra).c0
   have p1:=(hP.below hbra).c1
   have hSa:=hS.below hbra
   have s1:=hSa.cells.2.1
   rw [HDP.out] at s1
   have SD:∀ w',Below wa.heap.size wa w'→w'.cell? ⟨w.heap.size + 1,1,none⟩=some (.int .i64 (dp:Int)):=fun w' h=>(h.cell (cell_lt s1)).trans s1
   have hRd:∀ w',Below wa.heap.size wa w'→Roads w' x.A x.n x.l:=fun w' h=>Lst.below ((hx.below (bel hb8 hbra)).net) h
   have kk3:(0:Int)≤(i:Int):=by omega
   have kk4:(i:Int) < (vn:Int):=by omega
   have kk5:(0:Int)≤(d:Int):=by omega
   have kk6:(d:Int) < (x.m:Int):=HDM.out
   have hdn0:(0:Int)≤(dn:Int):=by omega
   have hdp0:(0:Int)≤(dp:Int):=by omega
   rw [HQB.out]
   have hmk2:∀ w',Below wa.heap.size wa w'→(fun w':World=>Below wa.heap.size wa w'∧w'.cell? ⟨w.heap.size,0,none⟩=some (.int .i64 x.nd)∧w'.cell? ⟨w.heap.size,1,none⟩=some (.slice x.A x.n x.c)∧w'.cell? ⟨w.heap.size + 1 + 1,1,none⟩=some (.slice (some adv) vn vc)∧w'.cell? ⟨wr.heap.size,1,none⟩=some (.int .i64 (i:Int))∧w'.cell? (adv.add i)=some (.int .i64 (d:Int))∧w'.cell? (adq.add (d * 7))=some (.int .i64 (dn:Int))∧w'.cell? ⟨w.heap.size + 1,1,none⟩=some (.int .i64 (dp:Int))) w':=fun w' h=>⟨h,(h.cell (cell_lt p0)).trans p0,(h.cell (cell_lt p1)).trans p1,(h.cell (cell_lt f1)).trans f1,(h.cell (cell_lt l1)).trans l1,(h.cell (cell_lt ci)).trans ci,(h.cell (cell_lt e0)).trans e0,(h.cell (cell_lt s1)).trans s1⟩
   have S0d:=hmk2 _ (Below.refl wa.heap.size wa).drew
   clear p0 p1 f1 l1 ci e0 s1 SD hSa
   refine wp_region_held_drew (S:=(fun w':World=>Below wa.heap.size wa w'∧w'.cell? ⟨w.heap.size,0,none⟩=some (.int .i64 x.nd)∧w'.cell? ⟨w.heap.size,1,none⟩=some (.slice x.A x.n x.c)∧w'.cell? ⟨w.heap.size + 1 + 1,1,none⟩=some (.slice (some adv) vn vc)∧w'.cell? ⟨wr.heap.size,1,none⟩=some (.int .i64 (i:Int))∧w'.cell? (adv.add i)=some (.int .i64 (d:Int))∧w'.cell? (adq.add (d * 7))=some (.int .i64 (dn:Int))∧w'.cell? ⟨w.heap.size + 1,1,none⟩=some (.int .i64 (dp:Int)))) (by kernel_rfl) S0d (fun hHeld=>?_)
   refine wpAnyH_take (i:=0) (oi:=?_) (v:=?_) ?_ (by kernel_rfl) (by kernel_rfl) (by kernel_rfl) ?_ ?_ (by assumption) ?_
   rotate_left 2
   ·(simp only [List.getElem?_toArray,List.getElem?_cons_zero];rfl)
   rotate_left
   ·(refine Or.inl ⟨by rfl,?_⟩;intro w hSw;(try dsimp only at hSw);go_simp;(try with_reducible rfl))
   rotate_left
   ·exact fun _ _ _ h=>h
   try simp only [Act.put,List.setIfInBounds_toArray,List.set_cons_zero,List.set_cons_succ]
   refine wpAnyH_take (i:=1) (oi:=?_) (v:=?_) ?_ (by kernel_rfl) (by kernel_rfl) (by kernel_rfl) ?_ ?_ (by assumption) ?_
   rotate_left 2
   ·(simp only [List.getElem?_toArray,List.getElem?_cons_succ,List.getElem?_cons_zero];rfl)
   rotate_left
   ·(refine Or.inl ⟨by rfl,?_⟩;intro w hSw;(try dsimp only at hSw);go_simp;(try with_reducible rfl))
   rotate_left
   ·exact fun _ _ _ h=>h
   try simp only [Act.put,List.setIfInBounds_toArray,List.set_cons_zero,List.set_cons_succ]
   refine wpAnyH_take (i:=2) (oi:=?_) (v:=?_) ?_ (by kernel_rfl) (by kernel_rfl) (by kernel_rfl) ?_ ?_ (by assumption) ?_
   rotate_left 2
   ·(simp only [List.getElem?_toArray,List.getElem?_cons_succ,List.getElem?_cons_zero];rfl)
   rotate_left
   ·(refine Or.inl ⟨by rfl,?_⟩;intro w hSw;(try dsimp only at hSw);go_simp;(try with_reducible rfl))
   rotate_left
   ·exact fun _ _ _ h=>h
   try simp only [Act.put,List.setIfInBounds_toArray,List.set_cons_zero,List.set_cons_succ]
   refine wpAnyH_take (i:=3) (oi:=?_) (v:=?_) ?_ (by kernel_rfl) (by kernel_rfl) (by kernel_rfl) ?_ ?_ (by assumption) ?_
   rotate_left 2
   ·(simp only [List.getElem?_toArray,List.getElem?_cons_succ,List.getElem?_cons_zero];rfl)
   rotate_left
   ·(refine Or.inl ⟨by rfl,?_⟩;intro w hSw;(try dsimp only at hSw);go_simp;(try with_reducible rfl))
   rotate_left
   ·exact fun _ _ _ h=>h
   try simp only [Act.put,List.setIfInBounds_toArray,List.set_cons_zero,List.set_cons_succ]
   refine wpAnyH_take (i:=4) (oi:=?_) (v:=?_) ?_ (by kernel_rfl) (by kernel_rfl) (by kernel_rfl) ?_ ?_ (by assumption) ?_
   rotate_left 2
   ·(simp only [List.getElem?_toArray,List.getElem?_cons_succ,List.getElem?_cons_zero];rfl)
   rotate_left
   ·(refine Or.inl ⟨by rfl,?_⟩;intro w hSw;(try dsimp only at hSw);go_simp;(try with_reducible rfl))
   rotate_left
   ·exact fun _ _ _ h=>h
   try simp only [Act.put,List.setIfInBounds_toArray,List.set_cons_zero,List.set_cons_succ]
   refine wpAnyH_take (i:=5) (oi:=?_) (v:=?_) ?_ (by kernel_rfl) (by kernel_rfl) (by kernel_rfl) ?_ ?_ (by assumption) ?_
   rotate_left 2
   ·(simp only [List.getElem?_toArray,List.getElem?_cons_succ,List.getElem?_cons_zero];rfl)
   rotate_left
   ·(refine Or.inl ⟨by rfl,?_⟩;intro w hSw;(try dsimp only at hSw);go_simp;(try with_reducible rfl))
   rotate_left
   ·exact fun _ _ _ h=>h
   try simp only [Act.put,List.setIfInBounds_toArray,List.set_cons_zero,List.set_cons_succ]
   refine wpAnyH_take (i:=6) (oi:=?_) (v:=?_) ?_ (by kernel_rfl) (by kernel_rfl) (by kernel_rfl) ?_ ?_ (by assumption) ?_
   rotate_left 2
   ·(simp only [List.getElem?_toArray,List.getElem?_cons_succ,List.getElem?_cons_zero];rfl)
   rotate_left
   ·(refine Or.inl ⟨by rfl,?_⟩;intro w hSw;(try dsimp only at hSw);go_simp;(try with_reducible rfl))
   rotate_left
   ·exact fun _ _ _ h=>h
   try simp only [Act.put,List.setIfInBounds_toArray,List.set_cons_zero,List.set_cons_succ]
   refine wpAnyH_take (i:=7) (oi:=?_) (v:=?_) ?_ (by kernel_rfl) (by kernel_rfl) (by kernel_rfl) ?_ ?_ (by assumption) ?_
   rotate_left 2
   ·(simp only [List.getElem?_toArray,List.getElem?_cons_succ,List.getElem?_cons_zero];rfl)
   rotate_left
   ·(refine Or.inl ⟨by rfl,?_⟩;intro w hSw;(try dsimp only at hSw);go_simp;(try with_reducible rfl))
   rotate_left
   ·exact fun _ _ _ h=>h
   try simp only [Act.put,List.setIfInBounds_toArray,List.set_cons_zero,List.set_cons_succ]
   refine wpAnyH_take (i:=8) (oi:=?_) (v:=?_) ?_ (by kernel_rfl) (by kernel_rfl) (by kernel_rfl) ?_ ?_ (by assumption) ?_
   rotate_left 2
   ·(simp only [List.getElem?_toArray,List.getElem?_cons_succ,List.getElem?_cons_zero];rfl)
   rotate_left
   ·(refine Or.inl ⟨by rfl,?_⟩;intro w hSw;(try dsimp only at hSw);go_simp;(try with_reducible rfl))
   rotate_left
   ·exact fun _ _ _ h=>h
   try simp only [Act.put,List.setIfInBounds_toArray,List.set_cons_zero,List.set_cons_succ]
   refine wpAnyH_take (i:=9) (oi:=?_) (v:=?_) ?_ (by kernel_rfl) (by kernel_rfl) (by kernel_rfl) ?_ ?_ (by assumption) ?_
   rotate_left 2
   ·(simp only [List.getElem?_toArray,List.getElem?_cons_succ,List.getElem?_cons_zero];rfl)
   rotate_left
   ·(refine Or.inl ⟨by rfl,?_⟩;intro w hSw;(try dsimp only at hSw);go_simp;(try with_reducible rfl))
   rotate_left
   ·exact fun _ _ _ h=>h
   try simp only [Act.put,List.setIfInBounds_toArray,List.set_cons_zero,List.set_cons_succ]
   refine wpAnyH_take (i:=10) (oi:=?_) (v:=?_) ?_ (by kernel_rfl) (by kernel_rfl) (by kernel_rfl) ?_ ?_ (by assumption) ?_
   rotate_left 2
   ·(simp only [List.getElem?_toArray,List.getElem?_cons_succ,List.getElem?_cons_zero];rfl)
   rotate_left
   ·(refine Or.inl ⟨by rfl,?_⟩;intro w hSw;(try dsimp only at hSw);go_simp;(try with_reducible rfl))
   rotate_left
   ·exact fun _ _ _ h=>h
   try simp only [Act.put,List.setIfInBounds_toArray,List.set_cons_zero,List.set_cons_succ]
   refine wpAnyH_take (i:=11) (oi:=?_) (v:=?_) ?_ (by kernel_rfl) (by kernel_rfl) (by kernel_rfl) ?_ ?_ (by assumption) ?_
   rotate_left 2
   ·(simp only [List.getElem?_toArray,List.getElem?_cons_succ,List.getElem?_cons_zero];rfl)
   rotate_left
   ·(refine Or.inl ⟨by rfl,?_⟩;intro w hSw;(try dsimp only at hSw);go_simp;(try with_reducible rfl))
   rotate_left
   ·exact fun _ _ _ h=>h
   try simp only [Act.put,List.setIfInBounds_toArray,List.set_cons_zero,List.set_cons_succ]
   refine wpAnyH_take (i:=13) (oi:=?_) (v:=?_) ?_ (by kernel_rfl) (by kernel_rfl) (by kernel_rfl) ?_ ?_ (by assumption) ?_
   rotate_left 2
   ·(simp only [List.getElem?_toArray,List.getElem?_cons_succ,List.getElem?_cons_zero];rfl)
   rotate_left
   ·(refine Or.inl ⟨by rfl,?_⟩;intro w hSw;(try dsimp only at hSw);go_simp;(try with_reducible rfl))
   rotate_left
   ·exact fun _ _ _ h=>h
   try simp only [Act.put,List.setIfInBounds_toArray,List.set_cons_zero,List.set_cons_succ]
   refine wpAnyH_take (i:=14) (oi:=?_) (v:=?_) ?_ (by kernel_rfl) (by kernel_rfl) (by kernel_rfl) ?_ ?_ (by assumption) ?_
   rotate_left 2
   ·(simp only [List.getElem?_toArray,List.getElem?_cons_succ,List.getElem?_cons_zero];rfl)
   rotate_left
   ·(refine Or.inl ⟨by rfl,?_⟩;intro w hSw;(try dsimp only at hSw);go_simp;(try with_reducible rfl))
   rotate_left
   ·exact fun _ _ _ h=>h
   try simp only [Act.put,List.setIfInBounds_toArray,List.set_cons_zero,List.set_cons_succ]
   refine wpAnyH_ready (rs:=[12]) (by kernel_rfl) (by simp) ?_
   refine AllReadyH.cons (o:=?_) ?_ (fun K hK=>?_) AllReadyH.nil
   rotate_left
   ·(simp only [List.getElem?_toArray,List.getElem?_cons_succ,List.getElem?_cons_zero];rfl)
   go_simp
   refine (rtimes_any x.nd x.A x.n x.c x.l (dn:Int) wt _ (hRd _ (Below.refl _ _).drew) hx.b1).mono ?_
   rintro e wy ⟨⟨TA,yn,yc,rfl,hTI⟩,bwy⟩
   obtain ⟨ady,rfl,cy,j4⟩:=way_read hTI HNE.out ⟨hdn0,hdn1⟩ hdpl
   rw [←HY.out] at cy
   have bay:Below wa.heap.size wa wy:=bel (Below.refl _ _).drew bwy
   have S1:=hmk2 _ bay
   try dsimp only
   refine hK.out _ _ S1 (fun hHeld=>?_)
   clear hK K
   try simp only [Act.put,List.setIfInBounds_toArray,List.set_cons_zero,List.set_cons_succ]
   refine wpAnyH_take (i:=15) (oi:=?_) (v:=?_) ?_ (by kernel_rfl) (by kernel_rfl) (by kernel_rfl) ?_ ?_ (by assumption) ?_
   rotate_left 2
   ·(simp only [List.getElem?_toArray,List.getElem?_cons_succ,List.getElem?_cons_zero];rfl)
   rotate_left
   ·(refine Or.inl ⟨by rfl,?_⟩;intro w hSw;(try dsimp only at hSw);go_simp;(try with_reducible rfl))
   rotate_left
   ·exact fun _ _ _ h=>h
   try simp only [Act.put,List.setIfInBounds_toArray,List.set_cons_zero,List.set_cons_succ]
   refine wpAnyH_ready (rs:=[16]) (by kernel_rfl) (by simp) ?_
   refine AllReadyH.cons (o:=?_) ?_ (fun K hK=>?_) AllReadyH.nil
   rotate_left
   ·(simp only [List.getElem?_toArray,List.getElem?_cons_succ,List.getElem?_cons_zero];rfl)
   go_simp
   try dsimp only
   refine hK.out _ _ S1 (fun hHeld=>?_)
   clear hK K
   try simp only [Act.put,List.setIfInBounds_toArray,List.set_cons_zero,List.set_cons_succ]
   refine wpAnyH_take (i:=17) (oi:=?_) (v:=?_) ?_ (by kernel_rfl) (by kernel_rfl) (by kernel_rfl) ?_ ?_ (by assumption) ?_
   rotate_left 2
   ·(simp only [List.getElem?_toArray,List.getElem?_cons_succ,List.getElem?_cons_zero];rfl)
   rotate_left
   ·(refine Or.inl ⟨by rfl,?_⟩;intro w hSw;(try dsimp only at hSw);go_simp;(try with_reducible rfl))
   rotate_left
   ·exact fun _ _ _ h=>h
   try simp only [Act.put,List.setIfInBounds_toArray,List.set_cons_zero,List.set_cons_succ]
   refine wpAnyH_done (by kernel_rfl) ?_ _
   clear S0d S1 hmk2 hRd cy hTI bwy j4
   have hbry:Below w8.heap.size w8 wy:=bel hbra bay
   have hbry2:=bel hb8 hbry
   have l2:=blk_cell (blk_below bay hYa) 2 _ rfl
   have s3:=((hS.below hbry).cells).2.2.2.1
   by_cases hy0:0≤y
   rotate_left
   ·have g2:decide (0≤y)=false:=decide_eq_false hy0
    have HN:=Lib.hid (show K.blocks x.nd x.l x.s x.r v l=!((l.drop (k + 1)).any (K.opensAt x.nd x.l x.s x.r v al)) by
     have h1:(y != -1)=false:=by have:y=-1:=by omega
                                 simp [this]
     rw [HBL.out,HOP2.out,h1];simp)
    go_wp2_with fail
    rw [←HQB.out]
    go_roundw
    case rel=>(go_light;exact ⟨_,_,⟨k + 1,rfl,hlt,HN.out⟩,rfl,rfl,by go_num,rfl⟩)
    case measure=>(go_light;simp [intOf] <;> omega)
   have g2:decide (0≤y)=true:=decide_eq_true hy0
   have hsum:IntKind.i64.wrap (L + y)=L + y:=IntWalk.i64_in _ (by omega)
   have hsum2:wrap64 (L + y)=L + y:=by rw [←IntWalk.i64_left];exact hsum
   have h1:(y != -1)=true:=by have:¬ y=-1:=by omega
                              simpa using this
   have HOP3:=Lib.hid (show K.opensAt x.nd x.l x.s x.r v al ⟨m,i,L⟩=decide (L + y≤x.s.end_) by rw [HOP2.out,h1];rfl)
   clear h1
   by_cases hle:L + y≤x.s.end_
   ·have g3:decide (L + y≤x.s.end_)=true:=decide_eq_true hle
    have HN:=Lib.hid (show K.blocks x.nd x.l x.s x.r v l=false by rw [HBL.out,HOP3.out,g3];rfl)
    go_wp2_with fail
    go_ret
    exact ⟨ret_b HN.out.symm,hbry2⟩
   ·have g3:decide (L + y≤x.s.end_)=false:=decide_eq_false hle
    have HN:=Lib.hid (show K.blocks x.nd x.l x.s x.r v l=!((l.drop (k + 1)).any (K.opensAt x.nd x.l x.s x.r v al)) by rw [HBL.out,HOP3.out,g3];rfl)
    go_wp2_with fail
    clear hsum hsum2
    rw [←HQB.out]
    go_roundw
    case rel=>(go_light;exact ⟨_,_,⟨k + 1,rfl,hlt,HN.out⟩,rfl,rfl,by go_num,rfl⟩)
    case measure=>(go_light;simp [intOf] <;> omega)
  ·have HN:=Lib.hid (show K.blocks x.nd x.l x.s x.r v l=true by rw [hbk.out,List.drop_eq_nil_of_le (by rw [←hL.1];omega)];rfl)
   have kk2:decide ((k:Int) < (ln:Int))=false:=by simp;omega
   have kk2n:decide (k < ln)=false:=by simp;omega
   go_wp2_with fail
   go_ret
   exact ⟨ret_b HN.out.symm,hb⟩
def K.nat (d:List Nat):List Int:=d.map fun (x:Nat)=>(x:Int)
def RetOwn (w w':World) (l:List Int) (e:Ending):Prop:=(∃ A n c,e=.returned (.slice A n c)∧Ints w' A n l∧n≤c)∧Below w.heap.size w w'
theorem own_cap {w:World} {base:Nat} {e:TypeId} {size n n' c:Nat} {A:Option Addr} {xs:List Value} (h:w.ownsRow base e size (.slice A n' c) n xs):n'≤c:=by
 obtain ⟨hl,⟨h1,h2⟩ | ⟨g,cap,cur,h1,h2,h3,h4,h5⟩⟩:=h
 ·injection h1 with e1 e2 e3
  omega
 ·injection h1 with e1 e2 e3
  omega
theorem K.nat_get {d:List Nat} {k:Nat} {i:Int} (h:(K.nat d)[k]? = some i):∃ x:Nat,d[k]? = some x∧i=(x:Int):=by
 unfold K.nat at h
 rw [List.getElem?_map] at h
 cases hd:d[k]? with
 | none=>rw [hd] at h;cases h
 | some x =>
  rw [hd] at h
  injection h with h
  exact ⟨x,rfl,h.symm⟩
theorem A.share_take {d:List Nat} {k x:Nat} (s:Nat) (h:d[k]? = some x):A.share (d.take (k + 1)) s 0=A.share (d.take k) s 0 ++ (if x=s then [(k:Int)] else []):=by
 obtain ⟨hk,e⟩:=List.getElem?_eq_some_iff.1 h
 rw [List.take_succ_eq_append_getElem hk,e,A.share_app]
 have hl:(d.take k).length=k:=by rw [List.length_take];omega
 rw [hl,A.share,A.share,Int.zero_add]
theorem A.share_len (s:Nat):∀ (d:List Nat) (i:Int),(A.share d s i).length≤d.length
 | [],_=>Nat.le_refl _
 | x :: d,i=>by
  rw [A.share,List.length_cons]
  have:=A.share_len s d (i + 1)
  split
  ·rw [List.length_cons];omega
  ·omega
set_option maxRecDepth 100000 in
set_option maxHeartbeats 8000000 in
theorem share22_any (A0:Option Addr) (n c:Nat) (d:List Nat) (s:Nat) (w:World) (hl:Ints w A0 n (K.nat d)) (hn:n≤1000) :
  Calls Tryz.prog 73 #[.slice A0 n c,.int .i64 (s:Int)] w fun e w'=>RetOwn w w' (A.share d s 0) e:=by
 have HLN:=Lib.hid (show n=d.length by have:=hl.1;rw [this];exact List.length_map _)
 go_enter Tryz.func73,Tryz.ntmps73
 go_wp2_with fail
 go_loopw [5,6] (fun v5 v6 wr=>∃ (k:Nat),v6=.int .i64 k∧k≤n∧wr.ownsRow w.heap.size 3 1 v5 (A.share (d.take k) s 0).length (intCells (A.share (d.take k) s 0))∧Below w.heap.size w wr) (fun _ v6 _=>n - (intOf v6).toNat)
 case atStart=>exact ⟨0,rfl,by omega,World.ownsRow_nil _ _ _ _,Below.refl _ _⟩
 case round =>
  obtain ⟨k,rfl,hk,hown,hbr⟩:=hrel
  by_cases hlt:k < n
  ·obtain ⟨adv,i,rfl,hi,ci⟩:=(hl.below hbr).at_ hlt
   obtain ⟨x,hx,rfl⟩:=K.nat_get hi
   have k0:(0:Int)≤(k:Int):=by omega
   have k1:(k:Int) < (n:Int):=by omega
   have HT:=Lib.hid (A.share_take s hx)
   have hpl:(A.share (d.take k) s 0).length≤1000:=by
    have:=A.share_len s (d.take k) 0
    rw [List.length_take] at this
    omega
   clear hi hx
   by_cases hxs:x=s
   rotate_left
   ·have hb1:((x:Int) == (s:Int))=false:=by simp;omega
    have hb2:decide ((x:Int)=(s:Int))=false:=by simp;omega
    have hb3:(x == s)=false:=by simp;omega
    have hb4:decide (x=s)=false:=by simp;omega
    have HN:=Lib.hid (show A.share (d.take (k + 1)) s 0=A.share (d.take k) s 0 by rw [HT.out,if_neg hxs,List.append_nil])
    clear hxs
    go_wp2_with fail
    go_roundw
    case rel=>exact ⟨k + 1,by go_num,by omega,by rw [HN.out];exact hown,hbr⟩
    case measure=>simp [intOf];omega
   ·have HN:=Lib.hid (show A.share (d.take (k + 1)) s 0=A.share (d.take k) s 0 ++ [(k:Int)] by rw [HT.out,if_pos hxs])
    subst hxs
    have ha:Below wr.heap.size wr (wr.alloc (.cells #[.int .i64 k] 3)):=(Below.refl _ _).alloc (Nat.le_refl _) _
    have hown2:=own_below hown ha
    have hs2:w.heap.size≤(wr.alloc (.cells #[.int .i64 k] 3)).heap.size:=Nat.le_trans hbr.size ha.size
    go_wp2_with (at_builtin;refine app_int rfl (.tmp 19) (.tmp 21) rfl w.heap.size u5 (A.share (d.take k) x 0).length (A.share (d.take k) x 0) rfl hown2 wr.heap.size (k:Int) rfl (heap_alloc_at _ _ _ rfl) (by omega) hs2 ?_;intro tv' w6 hown6 hgrow6 hat6)
    have b6:=below_own2 (bel hbr ha) hgrow6 (fun g e=>(hown.lt g e).1)
    have HS:=Lib.hid (show (A.share (d.take k) x 0).length + 1=(A.share (d.take (k + 1)) x 0).length by rw [HN.out,List.length_append];rfl)
    rw [←HN.out,HS.out] at hown6
    clear hgrow6 hat6 hown2 hown
    go_roundw
    case rel=>exact ⟨k + 1,by go_num,by omega,hown6,b6⟩
    case measure=>simp [intOf];omega
  ·have HN:=Lib.hid (show d.take k=d from List.take_of_length_le (by rw [←HLN.out];omega))
   rw [HN.out] at hown
   have hd:decide ((k:Int) < (n:Int))=false:=by simp;omega
   have hd2:decide (k < n)=false:=by simp;omega
   have hown':=hown
   obtain ⟨A9,c9,rfl,hI⟩:=own_ints hown rfl
   have hc9:=own_cap hown'
   clear hlt
   go_wp2_with fail
   go_ret
   exact ⟨⟨_,_,_,rfl,hI,hc9⟩,hbr⟩
def Row3 (w:World) (g:Nat) (l:List Int):Prop:=∃ cur:Array Value,w.heap[g]? = some (.cells cur 3 (0,0))∧∀ (i:Nat) (x:Int),l[i]? = some x→cur[i]? = some (.int .i64 x)
theorem Row3.cell {w:World} {g:Nat} {l:List Int} (h:Row3 w g l) {i:Nat} {x:Int} (hx:l[i]? = some x):w.cell? ⟨g,i,none⟩=some (.int .i64 x):=by
 obtain ⟨cur,h1,h2⟩:=h
 exact blk_cell h1 i _ (h2 i x hx)
theorem Row3.free {w:World} {g:Nat} {l:List Int} (h:Row3 w g l) (i:Nat):w.frozen? ⟨g,i,none⟩=false:=by
 obtain ⟨cur,h1,-⟩:=h
 exact blk_free h1 i
theorem Row3.set {w:World} {g:Nat} {l:List Int} (h:Row3 w g l) {k:Nat} (hk:k < l.length) (x:Int):Row3 (w.setCell ⟨g,k,none⟩ (.int .i64 x)) g (l.set k x):=by
 obtain ⟨cur,h1,h2⟩:=h
 refine ⟨_,blk_set h1 k _,fun i y hy=>?_⟩
 have hkc:k < cur.size:=(Array.getElem?_eq_some_iff.1 (h2 k _ (List.getElem?_eq_getElem hk))).1
 rw [List.getElem?_set] at hy
 rw [Array.getElem?_setIfInBounds]
 by_cases e:k=i
 ·subst e
  rw [if_pos rfl,if_pos hk] at hy
  injection hy with hy
  rw [if_pos rfl,if_pos hkc,hy]
 ·rw [if_neg e] at hy
  rw [if_neg e]
  exact h2 i y hy
theorem Row3.ints {w:World} {g:Nat} {l:List Int} (h:Row3 w g l):Ints w (some ⟨g,0,none⟩) l.length l:=by
 obtain ⟨cur,h1,h2⟩:=h
 refine ⟨rfl,by simp [intCells],fun _=>⟨_,rfl,fun j u hu=>?_⟩⟩
 rw [intCells,List.getElem?_map] at hu
 obtain ⟨y,hy,rfl⟩:=Option.map_eq_some_iff.1 hu
 rw [add_zero_block]
 exact blk_cell h1 j _ (h2 j y hy)
theorem row3_of {w:World} {base n c:Nat} {A2:Option Addr} {l:List Int} (h:w.ownsRow base 3 1 (.slice A2 n c) n (intCells l)) (h0:0 < n):∃ g,A2=some ⟨g,0,none⟩∧base≤g∧Row3 w g l:=by
 obtain ⟨hl,⟨e,e2⟩ | ⟨g,cap,cur,e,hb,hh,hnc,-,hsz,ht⟩⟩:=h
 ·omega
 ·injection e with e1 e2 e3
  refine ⟨g,e1,hb,cur,hh,fun i x hx=>?_⟩
  have hu:(intCells l)[i]? = some (.int .i64 x):=by rw [intCells,List.getElem?_map,hx];rfl
  rw [←ht,List.getElem?_take] at hu
  split at hu
  ·simpa using hu
  ·cases hu
theorem set_mid (a z:List Int) (x y:Int):((a ++ [x]) ++ z).set a.length y=a ++ y :: z:=by
 rw [List.append_assoc,List.set_append_right _ _ (Nat.le_refl _),Nat.sub_self]
 rfl
def RetNext (w w':World) (p:Option (List Nat)) (e:Ending):Prop :=
 ((p=none∧e=.returned (.tuple #[.slice none 0 0,.bool false]))∨∃ d A n c,p=some d∧e=.returned (.tuple #[.slice A n c,.bool true])∧Ints w' A n (K.nat d)∧n≤c)∧Below w.heap.size w w'
def K.low (d:List Nat) (n j:Nat):List Int:=K.nat (d.take j) ++ List.replicate (n - j) 0
theorem K.low_get {d:List Nat} {n i x:Nat} (h:d[i]? = some x):(K.low d n (i + 1))[i]? = some (x:Int):=by
 have hk:=(List.getElem?_eq_some_iff.1 h).1
 unfold K.low K.nat
 rw [List.getElem?_append_left (by rw [List.length_map,List.length_take];omega),List.getElem?_map,List.getElem?_take,if_pos (by omega),h]
 rfl
theorem K.low_len {d:List Nat} {n j:Nat} (hn:n=d.length) (hj:j≤n):(K.low d n j).length=n:=by
 unfold K.low K.nat
 rw [List.length_append,List.length_map,List.length_take,List.length_replicate]
 omega
theorem K.low_set {d:List Nat} {n i x:Nat} (h:d[i]? = some x) (y:Int):(K.low d n (i + 1)).set i y=K.nat (d.take i) ++ y :: List.replicate (n - (i + 1)) 0:=by
 have hk:=(List.getElem?_eq_some_iff.1 h).1
 have hl:(K.nat (d.take i)).length=i:=by unfold K.nat;rw [List.length_map,List.length_take];omega
 have:=set_mid (K.nat (d.take i)) (List.replicate (n - (i + 1)) 0) (x:Int) y
 rw [hl] at this
 rw [←this]
 unfold K.low
 rw [take_snoc h]
 unfold K.nat
 rw [List.map_append]
 rfl
theorem K.low_zero {d:List Nat} {n i x:Nat} (h:d[i]? = some x) (hn:n=d.length):(K.low d n (i + 1)).set i 0=K.low d n i:=by
 have hk:=(List.getElem?_eq_some_iff.1 h).1
 rw [K.low_set h,K.low]
 congr 1
 rw [show n - i=(n - (i + 1)) + 1 by omega]
 rfl
set_option maxRecDepth 100000 in
set_option maxHeartbeats 8000000 in
theorem next20_any (A0:Option Addr) (n c:Nat) (d:List Nat) (m:Nat) (w:World) (hl:Ints w A0 n (K.nat d)) (hn:n≤1000) (hd:∀ s ∈ d,s < m) (hm:m≤1000) :
  Calls Tryz.prog 71 #[.slice A0 n c,.int .i64 (m:Int)] w fun e w'=>RetNext w w' (A.next m d) e:=by
 have HLN:=Lib.hid (show n=d.length by have:=hl.1;rw [this];exact List.length_map _)
 obtain ⟨i0,hi,hz0,hz1,hz2⟩:=info_parts Tryz.info3
 obtain ⟨w1,hw1⟩:∃ w1:World,w1=w.alloc (.cells #[] 3):=⟨_,rfl⟩
 have b1:Below w.heap.size w w1:=by rw [hw1];exact (Below.refl _ _).alloc (Nat.le_refl _) _
 have hlit:w1.ownsRow w.heap.size 3 1 (.slice (some ⟨w.heap.size,0,none⟩) 0 0) 0 []:=by rw [hw1];exact own_lit (heap_alloc_new w (.cells #[] 3)) (Nat.le_refl _)
 have hrd:=(hl.below b1).2
 have hsz:=b1.size
 have hwr:IntKind.i64.wrap ((n:Int) - 1)=(n:Int) - 1:=IntWalk.i64_in _ (by omega)
 go_enter Tryz.func71,Tryz.ntmps71
 go_wp2_with (first
  | (at_builtin;rw [←hw1];refine wp_append_rd rfl (.tmp 8) (.tmp 9) 48 rfl w.heap.size 3 i0 (.int .i64 0) 1 8 Tryz.underlying48 hi hz0 hz1 hz2 rfl (by decide) (.slice (some ⟨w.heap.size,0,none⟩) 0 0) 0 [] rfl hlit A0 n c (intCells (K.nat d)) rfl hrd (intCells_one _) (by simp only [maxLen];omega) (by omega) hsz ?_;intro v1 w2 hown2 hgrow2 _;rw [Nat.zero_add,List.nil_append] at hown2;obtain ⟨A2,c2,rfl,-,-⟩:=own_form hown2;have hb2:=below_own2 b1 hgrow2 (lit_block (Nat.le_refl _)))
  | fail)
 have hc2:=own_cap hown2
 clear hlit hrd hsz hw1 b1 hgrow2 hi hz0 hz1 hz2
 go_loopw [7] (fun v7 wr=>∃ (j:Nat) (z:Int),v7=.int .i64 z∧z=(j:Int) - 1∧j≤n∧(0 < n→∃ g,A2=some ⟨g,0,none⟩∧w.heap.size≤g∧Row3 wr g (K.low d n j))∧Hid (A.next m (d.drop j)=none)∧Below w.heap.size w wr) (fun v7 _=>(intOf v7 + 1).toNat)
 case atStart =>
  refine ⟨n,_,rfl,(by simp),Nat.le_refl _,fun h0=>?_,(by show _=_;rw [List.drop_eq_nil_of_le (by rw [←HLN.out];exact Nat.le_refl _)];rfl),hb2⟩
  obtain ⟨g,e1,e2,e3⟩:=row3_of hown2 h0
  refine ⟨g,e1,e2,?_⟩
  unfold K.low
  rw [List.take_of_length_le (by rw [←HLN.out];exact Nat.le_refl _),Nat.sub_self,List.replicate_zero,List.append_nil]
  exact e3
 case round =>
  clear hown2 hb2
  obtain ⟨j,z,rfl,hz,hj,hrow,hnx,hbr⟩:=hrel
  cases j with
  | zero =>
   have hzz:z=-1:=by omega
   subst hzz
   have HX:=Lib.hid (show A.next m d=none by have:=hnx.out;rwa [List.drop_zero] at this)
   clear hz hrow
   go_wp2_with fail
   go_ret2
   exact ⟨.inl ⟨HX.out,rfl⟩,hbr⟩
  | succ i =>
   have hzz:z=(i:Int):=by omega
   subst hzz
   obtain ⟨g,rfl,hg,hR⟩:=hrow (by omega)
   have hid:i < d.length:=by rw [←HLN.out];omega
   have hx:d[i]? = some d[i]:=List.getElem?_eq_getElem hid
   obtain ⟨x,hxe⟩:∃ x,x=d[i]:=⟨_,rfl⟩
   rw [←hxe] at hx
   have hxm:x < m:=hd x (List.mem_of_getElem? hx)
   have hcell:=hR.cell (K.low_get (n:=n) hx)
   have hfree:=hR.free i
   have hlow:=K.low_len HLN.out hj
   have i0:(0:Int)≤(i:Int):=by omega
   have i1:(i:Int) < (n:Int):=by omega
   have hw1:IntKind.i64.wrap ((x:Int) + 1)=(x:Int) + 1:=IntWalk.i64_in _ (by omega)
   have hw2:IntKind.i64.wrap ((i:Int) - 1)=(i:Int) - 1:=IntWalk.i64_in _ (by omega)
   have hge:decide (0≤(i:Int))=true:=by simp
   have HNX:=Lib.hid (A.next_at d i hnx.out x hx)
   have HX:=Lib.hid hx
   have HD:=Lib.hid (show d=d.take i ++ d.drop i from (List.take_append_drop i d).symm)
   have hB1:∀ u:Int,Below w.heap.size w (wr.setCell ⟨g,i,none⟩ (.int .i64 u)):=fun u=>hbr.setCell (p:=⟨g,i,none⟩) hg _
   have hRs:∀ u:Int,Row3 (wr.setCell ⟨g,i,none⟩ (.int .i64 u)) g ((K.low d n (i + 1)).set i u):=fun u=>hR.set (by rw [hlow];omega) u
   clear hz hx hxe hid hR hlow
   by_cases hlt:x + 1 < m
   ·have hd1:decide ((x:Int) + 1 < (m:Int))=true:=by simp;omega
    have HN:=Lib.hid (show A.next m d=some (d.take i ++ (x + 1) :: List.replicate (n - (i + 1)) 0) by
     have h9:=HNX.out
     rw [if_pos hlt,←HLN.out] at h9
     rw [HD.out,A.next_pre _ _ _ h9,←HD.out])
    have hI:=(hRs ((x:Int) + 1)).ints
    rw [K.low_set HX.out] at hI
    have hln:(K.nat (d.take i) ++ ((x:Int) + 1) :: List.replicate (n - (i + 1)) 0).length=n:=by
     have h8:=HLN.out
     unfold K.nat
     rw [List.length_append,List.length_map,List.length_take,List.length_cons,List.length_replicate]
     omega
    rw [hln] at hI
    have hI2:Ints (wr.setCell ⟨g,i,none⟩ (.int .i64 ((x:Int) + 1))) (some ⟨g,0,none⟩) n (K.nat (d.take i ++ (x + 1) :: List.replicate (n - (i + 1)) 0)):=by
     have e9:K.nat (d.take i ++ (x + 1) :: List.replicate (n - (i + 1)) 0)=K.nat (d.take i) ++ ((x:Int) + 1) :: List.replicate (n - (i + 1)) 0:=by
      unfold K.nat
      rw [List.map_append,List.map_cons,List.map_replicate]
      rfl
     rw [e9]
     exact hI
    have hbX:=hB1 ((x:Int) + 1)
    clear hI hln hlt hRs hB1 HNX
    go_wp2_with fail
    go_ret2
    exact ⟨.inr ⟨_,_,_,_,HN.out,rfl,hI2,hc2⟩,hbX⟩
   ·have hd1:decide ((x:Int) + 1 < (m:Int))=false:=by simp;omega
    have HN:=Lib.hid (show A.next m (d.drop i)=none by rw [HNX.out,if_neg hlt])
    have hR0:=hRs 0
    rw [K.low_zero HX.out HLN.out] at hR0
    have hbX:=hB1 0
    clear hlt hRs hB1 HNX
    go_wp2_with fail
    go_roundw
    case rel=>(go_light;exact ⟨i,_,rfl,(by simp),by omega,fun _=>⟨g,rfl,hg,hR0⟩,HN.out,hbX⟩)
    case measure=>(go_light;simp [intOf])
def rank32 (m k:Nat) (v10 v11:Value) (w:World):Nat:=match v11 with
 | .bool true=>(m ^ k - A.val m ((readInts w v10).map Int.toNat)) + 1
 | _=>0
theorem toNat_nat (d:List Nat):(K.nat d).map Int.toNat=d:=by
 unfold K.nat
 rw [List.map_map]
 conv=>rhs;rw [←List.map_id d]
 congr 1
theorem rank_of {w:World} {A0:Option Addr} {n c m k:Nat} {d:List Nat} (h:Ints w A0 n (K.nat d)):rank32 m k (.slice A0 n c) (.bool true) w=(m ^ k - A.val m d) + 1:=by
 unfold rank32
 rw [readInts_ints h,toNat_nat]
namespace K
def hits32 (bl:List BV) (d:List Nat):Bool:=bl.any fun b=>A.part b.v (A.share d b.sh.toNat 0)
theorem blocked_all {bl:List BV} {m n:Nat} (hb:∀ b ∈ bl,0≤b.sh∧b.sh < (m:Int)):A.blocked (bl.map fun b=>(b.sh.toNat,b.v)) m n 0 (List.replicate m [])=(A.exts m n).all (hits32 bl):=by
 rw [Bool.eq_iff_iff,A.blocked_iff n 0 _ (List.length_replicate ..),List.all_eq_true]
 have key:∀ d ∈ A.exts m n,A.hit (bl.map fun b=>(b.sh.toNat,b.v)) (A.place (List.replicate m []) 0 d)=hits32 bl d:=fun d hd=>by
  rw [A.place_list hd]
  unfold A.hit hits32
  rw [List.any_map]
  have e:∀ b ∈ bl,((fun b:Nat × List Int=>A.part b.2 ((((List.range m).map fun s=>A.share d s 0)[b.1]?).getD [])) ∘ fun b:BV=>(b.sh.toNat,b.v)) b=A.part b.v (A.share d b.sh.toNat 0):=fun b hb'=>by
   have h1:=hb b hb'
   show A.part b.v ((((List.range m).map fun s=>A.share d s 0)[b.sh.toNat]?).getD [])=_
   rw [List.getElem?_map,List.getElem?_range (by omega)]
   rfl
  rw [Bool.eq_iff_iff,List.any_eq_true,List.any_eq_true]
  exact ⟨fun ⟨b,h1,h2⟩=>⟨b,h1,by rw [←e b h1];exact h2⟩,fun ⟨b,h1,h2⟩=>⟨b,h1,by rw [e b h1];exact h2⟩⟩
 exact ⟨fun h d hd=>by rw [←key d hd];exact h d hd,fun h d hd=>by rw [key d hd];exact h d hd⟩
theorem exts_none {n:Nat} (H:List Nat→Bool) (h:H [] = false):(A.exts 0 n).all H=decide (0 < n):=by
 cases n with
 | zero=>simp [A.exts,h]
 | succ n =>
  have:A.exts 0 (n + 1)=[]:=by simp [A.exts]
  rw [this]
  simp
end K
theorem vlen_of {w:World} {V:Option Addr} {vn N:Nat} {v:List Int} (h:Ints w V vn v) (hv:v.length≤N):vn≤N:=by rw [h.1];exact hv
theorem drop_any' {α:Type} {p:α→Bool} {l:List α} {k:Nat} {x:α} (h:l[k]? = some x):(l.take (k + 1)).any p=((l.take k).any p || p x):=by
 rw [take_snoc h,List.any_append]
 simp
set_option maxRecDepth 100000 in
set_option maxHeartbeats 16000000 in
theorem rrefutes29_any (x:Cs) (BA:Option Addr) (bn bc:Nat) (bl:List BV) (w:World) (hx:CsAt w x) (hB:Blks w BA bn bl) (hF:FewB bn bl) :
  Calls Tryz.prog 29 #[.agg #[.int .i64 x.nd,.slice x.A x.n x.c],.slice x.SA x.sn x.sc,.slice x.B x.m x.d,.slice BA bn bc] w fun e w'=>e=.returned (.bool (K.refutes x.nd x.l x.ss x.r (bl.map BV.pr)))∧Below w.heap.size w w':=by
 obtain ⟨w0,hw0⟩:∃ w0:World,w0=w.alloc (.cells #[.int .i64 x.nd,.slice x.A x.n x.c] 24):=⟨_,rfl⟩
 have b0:Below w.heap.size w w0:=by rw [hw0];exact (Below.refl _ _).alloc (Nat.le_refl _) _
 obtain ⟨G0,hG0⟩:∃ G0,G0=w.heap.size:=⟨_,rfl⟩
 have hN:Net w0 G0 x.nd x.A x.n x.c:=by rw [hw0,hG0];exact Net.new w x.nd x.A x.n x.c
 have p0:=hN.c0
 have p1:=hN.c1
 obtain ⟨R,hR⟩:∃ R,R=K.refutes x.nd x.l x.ss x.r (bl.map BV.pr):=⟨_,rfl⟩
 have HR:=Lib.hid hR
 rw [←hR]
 clear hR
 have HBN:=Lib.hid hB.1.1
 obtain ⟨hbn9,hbs⟩:=hF
 go_enter Tryz.func29,Tryz.ntmps29
 go_wp2_with fail
 rw [←hw0,←hG0]
 clear hw0 hG0
 refine (rstart69_any x _ (hx.below b0)).mono ?_
 obtain ⟨ce,hce⟩:∃ ce,ce=K.pcheck x.nd x.l x.ss x.r:=⟨_,rfl⟩
 rw [←hce]
 rintro e w1 ⟨rfl,b1⟩
 have hN1:=hN.below b1
 have hb1:=bel b0 b1
 clear p0 p1 b0 b1 hN
 by_cases hz:ce=0
 rotate_left
 ·have HX:=Lib.hid (show R=false by rw [HR.out];exact K.refutes_err (by rw [←hce];exact hz))
  have hd:(ce != 0)=true:=by simp [bne,hz]
  have hd2:decide (ce=0)=false:=by simp [hz]
  clear hce hz
  go_wp2_with fail
  go_ret
  exact ⟨by rw [HX.out];rfl,hb1⟩
 subst hz
 have HOK:=Lib.hid hce.symm
 clear hce
 have HSN:=Lib.hid hx.shifts.1.1
 have HRN:=Lib.hid hx.reqs.1
 have hm6:x.m≤6:=by rw [HRN.out];exact (K.pcheck_ok HOK.out).2.2.2.2
 have hsn4:x.sn≤4:=by rw [HSN.out];exact (K.pcheck_ok HOK.out).2.1
 by_cases hmany:bn≤200
 rotate_left
 ·have hd1:decide ((200:Int) < (bn:Int))=true:=by simp;omega
  have hd2:decide (200 < bn)=true:=by simp;omega
  have HX:=Lib.hid (show R=false by rw [HR.out];exact K.refutes_many (by rw [List.length_map,←HBN.out];exact hmany))
  clear hmany
  go_wp2_with fail
  go_ret
  exact ⟨by rw [HX.out];rfl,hb1⟩
 have hd1:decide ((200:Int) < (bn:Int))=false:=by simp;omega
 have hd2:decide (200 < bn)=false:=by simp;omega
 obtain ⟨P,hP⟩:∃ P,P=A.blocked (bl.map fun b=>(b.sh.toNat,b.v)) x.sn x.m 0 (List.replicate x.sn []):=⟨_,rfl⟩
 have HGO:=Lib.hid (show R=(((bl.map BV.pr).drop 0).all (K.okBlock x.nd x.l x.ss x.r) && P) by
  rw [HR.out,K.refutes_go HOK.out (by rw [List.length_map,←HBN.out];exact hmany),hP,HSN.out,HRN.out,List.map_map]
  rfl)
 have HP:=Lib.hid hP
 obtain ⟨L,hL⟩:∃ L,L=bl.map BV.pr:=⟨_,rfl⟩
 rw [←hL] at HGO
 have HL:=Lib.hid hL
 clear hP hL
 go_wp2_with fail
 clear hd1 hd2
 go_loopw [9] (fun v9 wr=>∃ k:Nat,v9=.int .i64 k∧k≤bn∧Below w1.heap.size w1 wr∧Hid (R=((L.drop k).all (K.okBlock x.nd x.l x.ss x.r) && P))∧Hid (∀ (j:Nat) (b:BV),j < k→bl[j]? = some b→0≤b.sh∧b.sh < (x.sn:Int))) (fun v9 _=>bn - (intOf v9).toNat)
 case atStart=>exact ⟨0,rfl,Nat.zero_le _,Below.refl _ _,HGO.out,fun j b h=>absurd h (by omega)⟩
 case round =>
  obtain ⟨k,rfl,hk,hbr,hrr,hrg⟩:=hrel
  by_cases hlt:k < bn
  ·obtain ⟨ad,y,hBA,hy,⟨hI1,hI2⟩,c0,c1,c2⟩:=(hB.below (bel hb1 hbr)).at_ hlt
   obtain ⟨hv1,hv2,hv3⟩:=hbs y (List.mem_of_getElem? hy)
   have hLk:L[k]? = some y.pr:=by rw [HL.out,List.getElem?_map,hy];rfl
   have HDR:=Lib.hid (show R=((K.okBlock x.nd x.l x.ss x.r y.pr && (L.drop (k + 1)).all (K.okBlock x.nd x.l x.ss x.r)) && P) by rw [hrr.out,K.allb_drop hLk])
   have HY:=Lib.hid hy
   have k0:(0:Int)≤(k:Int):=by omega
   have k1:(k:Int) < (bn:Int):=by omega
   have hxw3:=(hx.below hb1).below hbr
   have hNr:=hN1.below hbr
   clear hy hLk hrr
   rw [hBA]
   go_upto_region 7 with fail
   by_cases hneg:y.sh < 0
   ·have HX:=Lib.hid (show R=false by rw [HDR.out,K.okb_no (b:=y.pr) (.inl hneg)];rfl)
    have hd1:decide (y.sh < 0)=true:=decide_eq_true hneg
    clear hneg c0 c1 c2
    go_wp2_with fail
    go_ret
    exact ⟨by rw [HX.out];rfl,bel hb1 hbr⟩
   have hd1:decide (y.sh < 0)=false:=decide_eq_false hneg
   by_cases hbig:(x.sn:Int)≤y.sh
   ·have HX:=Lib.hid (show R=false by rw [HDR.out,K.okb_no (b:=y.pr) (.inr (by rw [←HSN.out];exact hbig))];rfl)
    have hd2:decide ((x.sn:Int)≤y.sh)=true:=decide_eq_true hbig
    clear hneg hbig c0 c1 c2
    go_wp2_with fail
    go_ret
    exact ⟨by rw [HX.out];rfl,bel hb1 hbr⟩
   have hd2:decide ((x.sn:Int)≤y.sh)=false:=decide_eq_false hbig
   obtain ⟨s,hs⟩:∃ s:Nat,y.sh=(s:Int):=⟨y.sh.toNat,by omega⟩
   have hsn:s < x.sn:=by omega
   obtain ⟨ads,sS,hSA,hsS,hIS,s0,s1,s2,s3,s4,s5⟩:=hxw3.shifts.at_ hsn
   have HOB:=Lib.hid (K.okb_at (nd:=x.nd) (l:=x.l) (r:=x.r) (b:=y.pr) (show 0≤y.sh by omega) (show x.ss[y.sh.toNat]? = some sS by rw [hs];exact hsS))
   have hsm:=List.mem_of_getElem? hsS
   have HRG:=Lib.hid (show ∀ (j:Nat) (b:BV),j < k + 1→bl[j]? = some b→0≤b.sh∧b.sh < (x.sn:Int) from fun j b hj hb=>by
    by_cases e:j=k
    ·rw [e,HY.out] at hb
     injection hb with hb
     rw [←hb,hs]
     omega
    ·exact hrg.out j b (by omega) hb)
   have HSS:=Lib.hid hs
   have q0:=Beh.cell c0
   have q1:=Beh.cell c1
   have q2:=Beh.cell c2
   have p0:=Beh.cell hNr.c0
   have p1:=Beh.cell hNr.c1
   have r0:=Beh.cell s0
   have r1:=Beh.cell s1
   have r2:=Beh.cell s2
   have r3:=Beh.cell s3
   have r4:=Beh.cell s4
   have r5:=Beh.cell s5
   obtain ⟨cb,hcb⟩:∃ cb,cb=K.blocks x.nd x.l sS x.r y.v y.lb:=⟨_,rfl⟩
   have CT:∀ i:Beh wr,Calls Tryz.prog 90 #[.agg #[.int .i64 x.nd,.slice x.A x.n x.c],.agg #[.int .i64 sS.day,.int .i64 sS.depot,.int .i64 sS.start,.int .i64 sS.end_,.int .i64 sS.tare,.slice sS.A sS.n sS.c],.slice x.B x.m x.d,.agg #[.int .i64 y.sh,.slice y.V y.vn y.vc,.slice y.LA y.ln y.lc]] i.val fun e w'=>e=.returned (.bool cb)∧Below i.val.heap.size i.val w':=fun i=>by
    rw [hcb]
    exact blocks31_any (x.one sS) y.sh y.V y.vn y.vc y.v y.LA y.ln y.lc y.lb i.val ((hxw3.below i.property).case hsm) (hI1.below i.property) hv2 (Lst.below hI2 i.property) hv3
   have HCB:=Lib.hid (show K.okBlock x.nd x.l x.ss x.r y.pr=cb by rw [HOB.out,hcb];rfl)
   have ks0:(0:Int)≤(s:Int):=by omega
   have ks1:(s:Int) < (x.sn:Int):=by omega
   have kd1:decide ((s:Int) < 0)=false:=by simp
   have kd2:decide ((x.sn:Int)≤(s:Int))=false:=by simp;omega
   have kd3:decide (x.sn≤s)=false:=by simp;omega
   rw [HSS.out] at q0 CT hd1 hd2 ⊢
   rw [hSA]
   have HSA:=Lib.hid hSA
   clear hs hsS hneg hbig hrg hcb HOB hSA s0 s1 s2 s3 s4 s5 c0 c1 c2 hIS
   go_upto_region 9 with fail
   refine reg_beh (by kernel_rfl) (by kernel_rfl) ?_
   repeat (go_big_quiet_step ((go_at_call 90;exact Beh.calls (CT _))))
   refine wpQuiet_nil ?_
   rintro w4 ⟨⟨w4,b4⟩,rfl⟩
   rw [←HSA.out]
   have hb4:=bel hbr b4
   clear q0 q1 q2 p0 p1 r0 r1 r2 r3 r4 r5 CT hI1 hI2 b4 hbr hd1 hd2
   cases cb
   ·have HX:=Lib.hid (show R=false by rw [HDR.out,HCB.out];rfl)
    go_wp2_with fail
    go_ret
    exact ⟨by rw [HX.out];rfl,bel hb1 hb4⟩
   ·have HNX:=Lib.hid (show R=((L.drop (k + 1)).all (K.okBlock x.nd x.l x.ss x.r) && P) by rw [HDR.out,HCB.out,Bool.true_and])
    go_wp2_with fail
    go_roundw
    case rel=>(go_light;exact ⟨k + 1,by go_num,hlt,hb4,HNX.out,HRG.out⟩)
    case measure=>(go_light;simp [intOf];omega)
  ·have HE0:=Lib.hid (show R=P by rw [hrr.out,List.drop_eq_nil_of_le (by rw [HL.out,List.length_map,←HBN.out];omega)];rfl)
   have hok:∀ b ∈ bl,0≤b.sh∧b.sh < (x.sn:Int):=fun b hb=>by
    obtain ⟨j,hj,e⟩:=List.getElem_of_mem hb
    exact hrg.out j b (by have:=HBN.out;omega) (by rw [List.getElem?_eq_getElem hj,e])
   have HE:=Lib.hid (show R=(A.exts x.sn x.m).all (K.hits32 bl) by rw [HE0.out,HP.out];exact K.blocked_all hok)
   have HOKB:=Lib.hid hok
   have hd:decide ((k:Int) < (bn:Int))=false:=by simp;omega
   have hd2:decide (k < bn)=false:=by simp;omega
   clear hrr hrg hok HE0
   by_cases h3:0 < x.sn
   rotate_left
   ·have d5:((x.sn:Int) == 0)=true:=by simp;omega
    have d6:decide ((x.sn:Int)=0)=true:=by simp;omega
    have d7:x.sn=0:=by omega
    have hX:R=decide (0 < x.m):=by
     rw [HE.out,d7]
     refine K.exts_none _ ?_
     have:bl=[]:=by
      cases hbl:bl with
      | nil=>rfl
      | cons b l =>
       have:=HOKB.out b (by rw [hbl];exact List.mem_cons_self ..)
       omega
     rw [this]
     rfl
    have HX:=Lib.hid hX
    have hb9:=bel hb1 hbr
    clear hX h3 d7 hlt hk
    by_cases hm0:0 < x.m
    ·have d8:decide ((0:Int) < (x.m:Int))=true:=by simp;omega
     have d9:decide (0 < x.m)=true:=by simp;omega
     have HX2:=Lib.hid (HX.out.trans d9)
     clear hm0
     go_wp2_with fail
     go_ret
     exact ⟨by rw [HX2.out];rfl,hb9⟩
    ·have d8:decide ((0:Int) < (x.m:Int))=false:=by simp;omega
     have d9:decide (0 < x.m)=false:=by simp;omega
     have HX2:=Lib.hid (HX.out.trans d9)
     clear hm0
     go_wp2_with fail
     go_ret
     exact ⟨by rw [HX2.out];rfl,hb9⟩
   have d5:((x.sn:Int) == 0)=false:=by simp;omega
   have d6:decide ((x.sn:Int)=0)=false:=by simp;omega
   obtain ⟨h,hh⟩:∃ h,h=wr.heap.size:=⟨_,rfl⟩
   obtain ⟨w5,hw5⟩:∃ w5:World,w5=wr.alloc (.cells (intCells (List.replicate x.m 0)).toArray 3):=⟨_,rfl⟩
   have b45:Below wr.heap.size wr w5:=by rw [hw5];exact (Below.refl _ _).alloc (Nat.le_refl _) _
   have hI5:Ints w5 (some ⟨h,0,none⟩) x.m (K.nat (List.replicate x.m 0)):=by
    have h9:IBlk w5 h (List.replicate x.m 0):=by rw [hw5,hh];exact heap_alloc_new _ _
    have h8:=h9.ints
    rw [List.length_replicate] at h8
    unfold K.nat
    rw [List.map_replicate]
    exact h8
   have hmk:=make_ints x.m (by omega)
   have hb5:=bel hb1 (bel hbr b45)
   clear hlt hk
   go_wp2_with fail
   rw [←hw5,←hh]
   clear hw5 hh hmk b45 hbr hb1 d5 d6 hd hd2
   have hex0:=A.exts_zero h3 x.m
   go_loopw [11,12] (fun v11 v12 wr=>Below w5.heap.size w5 wr∧((v12=.bool false∧Hid (∀ e ∈ A.exts x.sn x.m,K.hits32 bl e=true))∨∃ (j:Nat) (d:List Nat) (LA:Option Addr) (ln lc:Nat),v12=.bool true∧v11=.slice LA ln lc∧Ints wr LA ln (K.nat d)∧Hid ((A.exts x.sn x.m)[j]? = some d)∧Hid (∀ e ∈ (A.exts x.sn x.m).take j,K.hits32 bl e=true))) (fun v11 v12 wr=>rank32 x.sn x.m v11 v12 wr)
   case atStart=>exact ⟨Below.refl _ _,.inr ⟨0,_,_,_,_,rfl,rfl,hI5,hex0,fun e he=>(by cases he)⟩⟩
   case round =>
    clear hI5 hex0
    obtain ⟨hbr,(⟨rfl,hno⟩ | ⟨j,d,LA,ln,lc,rfl,rfl,hI,hj,hbef⟩)⟩:=hrel
    ·have HX:=Lib.hid (show R=true by rw [HE.out,List.all_eq_true];exact hno.out)
     go_wp2_with fail
     go_ret
     exact ⟨by rw [HX.out];rfl,bel hb5 hbr⟩
    ·obtain ⟨wo,hwo⟩:∃ wo:World,wo=wr:=⟨_,rfl⟩
     subst hwo
     obtain ⟨hdl,hdm⟩:=A.mem_exts.1 (List.mem_of_getElem? hj.out)
     have hln:ln=x.m:=by rw [hI.1];unfold K.nat;rw [List.length_map];exact hdl
     have HLN:=Lib.hid hln
     have HDL:=Lib.hid hdl
     have HDM:=Lib.hid hdm
     have hln3:ln≤1000:=by omega
     have hdl9:d.length≤1000:=by omega
     have HRK:=Lib.hid (rank_of (c:=lc) (m:=x.sn) (k:=x.m) hI)
     have hb6:=bel hb5 hbr
     have hBr:=hB.below hb6
     clear hdl hdm hln
     go_wp2_with fail
     go_loopw [13,14] (fun v13 v14 wi=>∃ i:Nat,v14=.int .i64 i∧i≤bn∧v13=.bool ((bl.take i).any fun b=>A.part b.v (A.share d b.sh.toNat 0))∧Below wo.heap.size wo wi) (fun _ v14 _=>bn - (intOf v14).toNat)
     case atStart=>exact ⟨0,rfl,Nat.zero_le _,rfl,Below.refl _ _⟩
     case round =>
      obtain ⟨i,rfl,hi,rfl,hbi⟩:=hrel
      have hbw:=bel hbr hbi
      by_cases hlt:i < bn
      ·obtain ⟨ad,b,hBA,hb_,⟨hIv,-⟩,c0,c1,c2⟩:=(hBr.below hbi).at_ hlt
       obtain ⟨s,hs⟩:∃ s:Nat,b.sh=(s:Int):=⟨b.sh.toNat,by have:=HOKB.out b (List.mem_of_getElem? hb_);omega⟩
       have hvn:=(hbs b (List.mem_of_getElem? hb_)).2.1
       have HNX:=Lib.hid (drop_any' (p:=fun b=>A.part b.v (A.share d b.sh.toNat 0)) hb_)
       obtain ⟨z,hz⟩:∃ z,z=(bl.take i).any fun b=>A.part b.v (A.share d b.sh.toNat 0):=⟨_,rfl⟩
       rw [←hz] at HNX ⊢
       obtain ⟨z2,hz2⟩:∃ z2,z2=A.part b.v (A.share d s 0):=⟨_,rfl⟩
       have HZ2:=Lib.hid (show A.part b.v (A.share d b.sh.toNat 0)=z2 by rw [hz2,hs];rfl)
       have HZ3:=Lib.hid hz2.symm
       have i0:(0:Int)≤(i:Int):=by omega
       have i1:(i:Int) < (bn:Int):=by omega
       have hki:(i + 1)≤bn:=hlt
       rw [hs] at c0
       clear hz hz2 hs hb_ c2 hi
       rw [hBA]
       clear hBA
       cases z
       ·have HQ:=Lib.hid (show ((bl.take (i + 1)).any fun b=>A.part b.v (A.share d b.sh.toNat 0))=z2 by rw [HNX.out,HZ2.out,Bool.false_or])
        have hmk2:∀ w',Below wr.heap.size wr w'→(fun w':World=>w'.cell? (ad.add (i * 3))=some (.int .i64 (s:Int))∧w'.cell? ⟨(ad.add (i * 3)).block,(ad.add (i * 3)).off + 1,none⟩=some (.slice b.V b.vn b.vc)) w':=fun w' h=>⟨(h.cell (cell_lt c0)).trans c0,(h.cell (cell_lt c1)).trans c1⟩
        have hR0:Below wr.heap.size wr wr:=Below.refl _ _
        have hR0d:=hR0.drew
        have S0:=hmk2 _ hR0
        have S0d:=hmk2 _ hR0d
        have hIi:=hI.below hbi
        clear c0 c1 HNX HZ2
        go_upto_region 21 with fail
        go_region_held3 (fun w':World=>w'.cell? (ad.add (i * 3))=some (.int .i64 (s:Int))∧w'.cell? ⟨(ad.add (i * 3)).block,(ad.add (i * 3)).off + 1,none⟩=some (.slice b.V b.vn b.vc))
         (first | with_reducible exact S2 | with_reducible exact S1 | with_reducible exact S0d | with_reducible exact S0 | fail)
         (first
          | (go_at_call 73;refine (share22_any LA ln lc d s _ (hIi.below hR0d) hln3).mono ?_;rintro e wd ⟨⟨V,vn,vc,rfl,hVd,hvc⟩,bd⟩;have bd2:=bel hR0d bd;have S1:=hmk2 _ bd2;have hvl:=vlen_of hVd (Nat.le_trans (A.share_len s d 0) hdl9))
          | (go_at_call 80;refine (rpart80_any b.V b.vn b.vc b.v V vn vc _ _ ((hIv.below bd2)) hvn hVd (by omega)).mono ?_;rintro e we ⟨rfl,be⟩;rw [HZ3.out];have be2:=bel bd2 be;have S2:=hmk2 _ be2)
          | fail)
        have hbe:=bel hbi be2
        clear S0 S0d S1 S2 hmk2 hR0 hR0d
        go_wp2_with fail
        go_roundw
        case rel=>(go_light;exact ⟨i + 1,by go_num,hki,by rw [HQ.out],hbe⟩)
        case measure=>(go_light;simp [intOf];omega)
       ·have HQ:=Lib.hid (show ((bl.take (i + 1)).any fun b=>A.part b.v (A.share d b.sh.toNat 0))=true by rw [HNX.out,Bool.true_or])
        clear c0 c1 HNX HZ2
        go_upto_region 21 with fail
        refine reg_beh (by kernel_rfl) (by kernel_rfl) ?_
        repeat (go_big_quiet_step (fail))
        refine wpQuiet_nil ?_
        rintro w4 ⟨⟨w4,b4⟩,rfl⟩
        have hbe:=bel hbi b4
        go_wp2_with fail
        go_roundw
        case rel=>(go_light;exact ⟨i + 1,by go_num,hki,by rw [HQ.out],hbe⟩)
        case measure=>(go_light;simp [intOf];omega)
      ·have hall:(bl.take i).any (fun b=>A.part b.v (A.share d b.sh.toNat 0))=K.hits32 bl d:=by rw [List.take_of_length_le (by have:=HBN.out;omega)];rfl
       rw [hall]
       have hd:decide ((i:Int) < (bn:Int))=false:=by simp;omega
       have hd2:decide (i < bn)=false:=by simp;omega
       obtain ⟨z,hz⟩:∃ z,z=K.hits32 bl d:=⟨_,rfl⟩
       have HZ:=Lib.hid hz
       rw [←hz]
       have hI6:=hI.below hbi
       have CN:=next20_any LA ln lc d x.sn wr hI6 hln3 HDM.out (by omega)
       have HEX:=Lib.hid (A.next_exts h3 hj.out)
       obtain ⟨nx,hnx⟩:∃ nx,nx=A.next x.sn d:=⟨_,rfl⟩
       rw [←hnx] at CN HEX
       have HNX:=Lib.hid hnx
       clear hall hz hnx hlt hi
       cases z
       ·have HX:=Lib.hid (show R=false by
         rw [HE.out,List.all_eq_false]
         exact ⟨d,List.mem_of_getElem? hj.out,by rw [←HZ.out];decide⟩)
        clear CN
        go_wp2_with fail
        go_ret
        exact ⟨by rw [HX.out];rfl,bel hb5 hbw⟩
       have HBF:=Lib.hid (show ∀ e ∈ (A.exts x.sn x.m).take (j + 1),K.hits32 bl e=true from fun e he=>by
        rw [take_snoc hj.out] at he
        rcases List.mem_append.1 he with he | he
        ·exact hbef.out e he
        ·rw [List.mem_singleton.1 he];exact HZ.out.symm)
       go_wp2_with fail
       refine CN.mono ?_
       rintro e w7 ⟨(⟨hnn,rfl⟩ | ⟨d',A',n',c',hnn,rfl,hI',hc'⟩),b7⟩
       ·have HALL:=Lib.hid (show ∀ e ∈ A.exts x.sn x.m,K.hits32 bl e=true by
         have h9:=HEX.out
         rw [hnn] at h9
         have h8:=List.getElem?_eq_none_iff.1 h9.symm
         have h7:=HBF.out
         rw [List.take_of_length_le h8] at h7
         exact h7)
        have hb7:=bel hbw b7
        have HME:=Lib.hid (show rank32 x.sn x.m (.slice none 0 0) (.bool false) w7 < rank32 x.sn x.m (.slice LA ln lc) (.bool true) wo by rw [HRK.out];exact Nat.succ_pos _)
        clear hnn CN
        go_wp2_with fail
        go_roundw
        case rel=>(go_light;exact ⟨hb7,.inl ⟨rfl,HALL.out⟩⟩)
        case measure=>(go_light;exact HME.out)
       ·have hb7:=bel hbw b7
        have HME:=Lib.hid (show rank32 x.sn x.m (.slice A' n' c') (.bool true) w7 < rank32 x.sn x.m (.slice LA ln lc) (.bool true) wo by
         rw [HRK.out,rank_of hI']
         have h9:=((A.val_next HDM.out).1 d' (by rw [←HNX.out];exact hnn)).1
         have h8:=A.val_lt HDM.out
         rw [HDL.out] at h8
         omega)
        have HEJ:=Lib.hid (show (A.exts x.sn x.m)[j + 1]? = some d' by rw [←HEX.out];exact hnn)
        clear hnn CN
        go_wp2_with fail
        go_roundw
        case rel=>(go_light;exact ⟨hb7,.inr ⟨j + 1,d',A',n',c',rfl,rfl,hI',HEJ.out,HBF.out⟩⟩)
        case measure=>(go_light;exact HME.out)
set_option maxRecDepth 100000 in
set_option maxHeartbeats 16000000 in
theorem sameBlks25_yes (A B:Option Addr) (n m c d:Nat) (la lb:List BV) (w:World) (ha:Blks w A n la) (hb:Blks w B m lb) (h:la.map BV.pr=lb.map BV.pr) (hn:n≤1000000000) (hs:∀ y ∈ la,y.vn≤1000000000∧y.ln≤1000000000) :
  Calls Tryz.prog 25 #[.slice A n c,.slice B m d] w fun e w'=>e=.returned (.bool true)∧Below w.heap.size w w':=by
 obtain rfl:m=n:=by
  have:=congrArg List.length h
  rw [List.length_map,List.length_map] at this
  rw [ha.1.1,hb.1.1,this]
 have HM:=Lib.hid h
 clear h
 have ee:∀ z:Int,(z != z)=false:=fun z=>by simp
 go_enter Tryz.func25,Tryz.ntmps25
 go_wp2_with fail
 go_loopw [5] (fun v wr=>∃ k:Nat,v=.int .i64 k∧k≤m∧Below w.heap.size w wr) (fun v _=>m - (intOf v).toNat)
 case atStart=>exact ⟨0,rfl,Nat.zero_le _,Below.refl _ _⟩
 case round =>
  obtain ⟨k,rfl,hk,hbr⟩:=hrel
  by_cases hlt:k < m
  ·obtain ⟨ad,p,hA,hp,⟨hI1,hI2⟩,c0,c1,c2⟩:=(ha.below hbr).at_ hlt
   obtain ⟨ad2,q,hB,hq2,⟨hJ1,hJ2⟩,d0,d1,d2⟩:=(hb.below hbr).at_ hlt
   have hpq:p.pr=q.pr:=by
    have e1:(la.map BV.pr)[k]? = some p.pr:=by rw [List.getElem?_map,hp];rfl
    rw [HM.out,List.getElem?_map,hq2] at e1
    injection e1 with e1
    exact e1.symm
   obtain ⟨hpv,hpl⟩:=hs p (List.mem_of_getElem? hp)
   have e1:p.sh=q.sh:=congrArg (fun z=>z.1) hpq
   have e2:p.v=q.v:=congrArg (fun z=>z.2.1) hpq
   have e3:p.lb=q.lb:=congrArg (fun z=>z.2.2) hpq
   have hqv:q.vn≤1000000000:=by rw [hJ1.1,←e2,←hI1.1];exact hpv
   have hql:q.ln≤1000000000:=by rw [hJ2.1,←e3,←hI2.1];exact hpl
   have C1:∀ i:Beh wr,Calls Tryz.prog 50 #[.slice p.V p.vn p.vc,.slice q.V q.vn q.vc] i.val fun e w'=>e=.returned (.bool true)∧Below i.val.heap.size i.val w':=fun i=>by
    have h9:=sameInts28_any p.V q.V p.vn q.vn p.vc q.vc p.v q.v i.val (hI1.below i.property) (hJ1.below i.property) hpv hqv
    rw [decide_eq_true e2] at h9
    exact h9
   have C2:∀ i:Beh wr,Calls Tryz.prog 83 #[.slice p.LA p.ln p.lc,.slice q.LA q.ln q.lc] i.val fun e w'=>e=.returned (.bool true)∧Below i.val.heap.size i.val w':=fun i=>by
    have h9:=samelab_any p.LA q.LA p.ln q.ln p.lc q.lc p.lb q.lb i.val (Lst.below hI2 i.property) (Lst.below hJ2 i.property) hpl hql
    rw [decide_eq_true e3] at h9
    exact h9
   have k0:(0:Int)≤(k:Int):=by omega
   have k1:(k:Int) < (m:Int):=by omega
   rw [←e1] at d0
   have a0:=Beh.cell c0
   have a1:=Beh.cell c1
   have a2:=Beh.cell c2
   have b0:=Beh.cell d0
   have b1:=Beh.cell d1
   have b2:=Beh.cell d2
   clear hp hq2 hpq hpv hpl hqv hql hI1 hI2 hJ1 hJ2 c0 c1 c2 d0 d1 d2 e1 e2 e3
   rw [hA,hB]
   clear hA hB
   go_upto_region 6 with fail
   refine reg_beh (by kernel_rfl) (by kernel_rfl) ?_
   repeat (go_big_quiet_step ((first | (go_at_call 50;exact Beh.calls (C1 _)) | (go_at_call 83;exact Beh.calls (C2 _)))))
   refine wpQuiet_nil ?_
   rintro w4 ⟨⟨w4,b4⟩,rfl⟩
   have hb4:=bel hbr b4
   clear C1 C2 a0 a1 a2 b0 b1 b2
   go_wp2_with fail
   go_roundw
   case rel=>exact ⟨k + 1,by go_num,hlt,hb4⟩
   case measure=>simp [intOf];omega
  ·have hd:decide ((k:Int) < (m:Int))=false:=by simp;omega
   have hd2:decide (k < m)=false:=by simp;omega
   go_wp2_with fail
   go_ret
   exact ⟨rfl,hbr⟩
set_option maxRecDepth 100000 in
set_option maxHeartbeats 4000000 in
theorem number72_any (V:Option Addr) (vn vc:Nat) (v:List Int) (w:World) (hV:Ints w V vn v) (h1:v.Pairwise (· < ·)) (h2:∀ i ∈ v,0≤i∧i < 6) :
  Calls Tryz.prog 72 #[.slice V vn vc] w fun e w'=>e=.returned (.int .i64 (K.num v))∧w=w':=by
 obtain ⟨s6,h6⟩:=K.set6 h1 h2
 have H6:=Lib.hid h6
 have HL:=Lib.hid hV.1
 have hl6:vn≤6:=by rw [hV.1];exact h6.len
 clear h6
 go_enter Tryz.func72,Tryz.ntmps72
 go_wp2_with fail
 go_loopw [3,4] (fun v3 v4 wr=>∃ j:Nat,v4=.int .i64 j∧j≤vn∧v3=.int .i64 (K.num (v.take j))∧w=wr) (fun _ v4 _=>vn - (intOf v4).toNat)
 case atStart=>exact ⟨0,rfl,Nat.zero_le _,rfl,rfl⟩
 case round =>
  obtain ⟨j,rfl,hj,rfl,rfl⟩:=hrel
  by_cases hlt:j < vn
  ·obtain ⟨adv,i,hVA,hi,ci⟩:=hV.at_ hlt
   obtain ⟨g1,g2,g3,g4⟩:=H6.out.at_ hi
   have HNX:=Lib.hid (H6.out.next hi)
   obtain ⟨i,rfl⟩:∃ n:Nat,i=(n:Int):=⟨i.toNat,by omega⟩
   rw [Int.toNat_natCast] at g2 HNX
   obtain ⟨nm,hnm⟩:∃ nm,nm=K.num (v.take j):=⟨_,rfl⟩
   rw [←hnm] at g1 g2 HNX ⊢
   obtain ⟨mm,hmm⟩:∃ mm,mm=nm + 2 ^ i:=⟨_,rfl⟩
   have hor:bits BinOp.or IntKind.i64 (nm:Int) (IntKind.i64.wrap (2 ^ i))=(mm:Int):=by rw [wrap_pow (by omega),bit_or g1 (by omega) g2,hmm]
   have hor':bits BinOp.or IntKind.i64 (nm:Int) (wrap64 (2 ^ i))=(mm:Int):=by rw [←IntWalk.i64_left];exact hor
   have HM:=Lib.hid (show K.num (v.take (j + 1))=mm by rw [HNX.out,hmm])
   have k0:(0:Int)≤(j:Int):=by omega
   have k1:(j:Int) < (vn:Int):=by omega
   have k2:(0:Int)≤(i:Int):=by omega
   have k3:(i:Int) < 64:=by omega
   clear hi hmm hnm HNX g1 g2 g3 g4
   rw [hVA]
   go_wp2_with fail
   go_roundw
   case rel=>(go_light;exact ⟨j + 1,by go_num,hlt,by rw [HM.out],(by first | rfl | trivial)⟩)
   case measure=>(go_light;simp [intOf];omega)
  ·have hd:decide ((j:Int) < (vn:Int))=false:=by simp;omega
   have hd2:decide (j < vn)=false:=by simp;omega
   have HX:=Lib.hid (show v.take j=v from List.take_of_length_le (by rw [←HL.out];omega))
   rw [HX.out]
   go_wp2_with fail
   go_ret
   first | exact ⟨rfl,rfl⟩ | exact rfl | trivial
end Go.Proofs.YtippdjmpkafifaaGreat
