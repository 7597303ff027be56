import Derived.Test.YtippdjmpkafifaaGreatCK16
import Derived.Test.YtippdjmpkafifaaGreatCK7
import Derived.Test.YtippdjmpkafifaaGreatCK9
import Derived.Deep.Light
namespace Go.Proofs.YtippdjmpkafifaaGreat
open Go.RowKit
structure NRel (x:C) (o:List Int) (wS:World) (S:Value) (k:Nat) (tv:Value) (a t:Int) (ts:List Int) (wr:World):Prop where
 legs:K.legs x.nd x.l x.s x.r [] x.s.depot x.s.start o=⟨ts ++ (K.legs x.nd x.l x.s x.r (o.take k) a t (o.drop k)).times,(K.legs x.nd x.l x.s x.r (o.take k) a t (o.drop k)).a,(K.legs x.nd x.l x.s x.r (o.take k) a t (o.drop k)).t,(K.legs x.nd x.l x.s x.r (o.take k) a t (o.drop k)).e⟩
 len:ts.length=k
 blk:TBlk wr wS.heap.size 0 S tv 0
 own:wr.ownsRow (wS.heap.size + 1) 3 1 tv k (intCells ts)
 a0:0≤a∧a < x.nd
 t0:0≤t∧t≤1000000
 bw:Below wS.heap.size wS wr
theorem NRel.next {x:C} {o:List Int} {wS wr w5 w6:World} {S:Value} {k:Nat} {tv tv':Value} {a t i lb le:Int} {ts:List Int} (h:NRel x o wS S k tv a t ts wr) (hi:o[k]? = some i) (hlb:lb=(K.leg x.nd x.l x.s x.r (o.take k) i a t).1) (hle:le=(K.leg x.nd x.l x.s x.r (o.take k) i a t).2) (h0:le=0)
  (hb:Below wr.heap.size wr w5)
  (hown:w6.ownsRow (wS.heap.size + 1) 3 1 tv' (k + 1) (intCells (ts ++ [lb]))) (hgrow:(w5.alloc (.cells #[.int .i64 lb] 3)).grownBy w6 tv.ownBlock)
  (hno:0≤(K.req x.r i).node∧(K.req x.r i).node < x.nd) (hse:0≤(K.req x.r i).service):NRel x o wS S (k + 1) tv' (K.req x.r i).node (lb + (K.req x.r i).service) (ts ++ [lb]) (w6.setCell ⟨wS.heap.size,2,none⟩ tv'):=by
 subst hlb
 have hl:(K.leg x.nd x.l x.s x.r (o.take k) i a t).2=0:=by rw [←hle];exact h0
 have hlt:∀ g,tv.ownBlock=some g→wS.heap.size + 1≤g∧g < wr.heap.size:=fun g e=>h.own.lt g e
 have hs6:=hgrow.size
 rw [World.size_alloc] at hs6
 have ba:Below w5.heap.size w5 (w5.alloc (.cells #[.int .i64 (K.leg x.nd x.l x.s x.r (o.take k) i a t).1] 3)):=(Below.refl _ _).alloc (Nat.le_refl _) _
 have b6:Below wS.heap.size wS w6:=below_own2 (bel (bel h.bw hb) ba) hgrow (fun g e=>by have:=(hlt g e).1;omega)
 have hT6:TBlk w6 wS.heap.size 0 S tv 0:=grow_blk hgrow ((h.blk.below hb).below ba) (fun e=>by have:=(hlt _ e.symm).1;omega)
 obtain ⟨-,-,-,l4,l5,l6,l7⟩:=K.leg_ok hl
 obtain ⟨-,r2,r3,-⟩:=K.reach_ok l4
 obtain ⟨-,-,-,f1,f2⟩:=H.fit_ok l5
 refine ⟨?_,by rw [List.length_append,h.len];rfl,blk_set hT6 2 _,?_,hno,?_,b6.setCell (Nat.le_refl _) _⟩
 ·rw [h.legs,K.legs_ok hi hl,List.append_assoc];rfl
 ·exact ownsRow_setCell_below hown (Nat.lt_succ_self _) _
 ·have:=h.t0
  rw [l6] at l7 ⊢
  omega
set_option maxRecDepth 100000 in
set_option maxHeartbeats 16000000 in
theorem rrun_any (x:C) (V:Option Addr) (vn vc:Nat) (o:List Int) (w:World) (hx:At w x) (hV:Ints w V vn o) (hvc:vn≤vc) (hvn:vn≤100000) :
  Calls Tryz.prog 131 #[.agg #[.int .i64 x.nd,.slice x.A x.n x.c],.agg #[.int .i64 x.s.day,.int .i64 x.s.depot,.int .i64 x.s.start,.int .i64 x.s.end_,.int .i64 x.s.tare,.slice x.s.A x.s.n x.s.c],.slice x.B x.m x.d,.slice V vn vc] w fun e w'=>RetTour w w' (K.run x.nd x.l x.s x.r o) e:=by
 obtain ⟨w1,hw1⟩:∃ w1:World,w1=w.alloc (.cells #[.int .i64 x.nd,.slice x.A x.n x.c] 24):=⟨_,rfl⟩
 obtain ⟨w2,hw2⟩:∃ w2:World,w2=w1.alloc (.cells #[.int .i64 x.s.day,.int .i64 x.s.depot,.int .i64 x.s.start,.int .i64 x.s.end_,.int .i64 x.s.tare,.slice x.s.A x.s.n x.s.c] 63):=⟨_,rfl⟩
 obtain ⟨w3,hw3⟩:∃ w3:World,w3=w2.alloc (.cells #[.int .i64 0,.slice none 0 0,.slice none 0 0,.int .i64 0] 80):=⟨_,rfl⟩
 have z1:w1.heap.size=w.heap.size + 1:=by rw [hw1];exact World.size_alloc _ _
 have z2:w2.heap.size=w.heap.size + 1 + 1:=by rw [hw2,World.size_alloc,z1]
 have z3:w3.heap.size=w.heap.size + 1 + 1 + 1:=by rw [hw3,World.size_alloc,z2]
 have b01:Below w.heap.size w w1:=by rw [hw1];exact (Below.refl _ _).alloc (Nat.le_refl _) _
 have b12:Below w1.heap.size w1 w2:=by rw [hw2];exact (Below.refl _ _).alloc (Nat.le_refl _) _
 have b23:Below w2.heap.size w2 w3:=by rw [hw3];exact (Below.refl _ _).alloc (Nat.le_refl _) _
 have hP:Net w3 w.heap.size x.nd x.A x.n x.c:=by
  have h1:Net w1 w.heap.size x.nd x.A x.n x.c:=by rw [hw1];exact Net.new _ _ _ _ _
  exact (h1.below b12).below b23
 have hS:Shf w3 (w.heap.size + 1) x.s:=by
  have h1:Shf w2 (w.heap.size + 1) x.s:=by rw [←z1,hw2];exact Shf.new _ _
  exact h1.below b23
 have hR:TrBlk w3 (w.heap.size + 1 + 1) (.slice none 0 0) (.slice none 0 0) 0:=by rw [←z2,hw3];exact heap_alloc_new _ _
 have b3:=bel (bel b01 b12) b23
 have p0:=hP.c0
 have p1:=hP.c1
 obtain ⟨s0,s1,s2,s3,s4,s5⟩:=hS.cells
 have Z3:=Lib.hid z3
 rw [hw3,hw2,hw1] at p0 p1 s0 s1 s2 s3 s4 s5
 go_enter Tryz.func131,Tryz.ntmps131
 go_wp2_with fail
 rw [←hw1,←hw2,←hw3]
 clear hw1 hw2 hw3 z1 z2 z3 b01 b12 b23 p0 p1 s0 s1 s2 s3 s4 s5
 refine (rright30_any x V vn vc o _ (hx.below b3) (hV.below b3) (by omega)).mono ?_
 rintro e w4 ⟨rfl,b34⟩
 have hP:=hP.below b34
 have hS:=hS.below b34
 have hR:=hR.below b34 (by rw [Z3.out];omega)
 have b4:=bel b3 b34
 clear b3
 cases hr:K.right x.nd x.l x.s x.r o
 ·have HX:=Lib.hid (show K.run x.nd x.l x.s x.r o=⟨K.Tr.zero,1,0⟩ by unfold K.run;rw [if_pos hr])
  clear hr
  obtain ⟨r0,r1,r2,r3⟩:=hR.cells
  have f0:=hR.free 0
  have f1:=hR.free 1
  have f2:=hR.free 2
  have f3:=hR.free 3
  go_wp2_with fail
  refine bodyPost_ret_by (v:=.tuple #[.agg #[.int .i64 0,.slice none 0 0,.slice none 0 0,.int .i64 0],.int .i64 1,.int .i64 0]) ?_ rfl ?_
  ·obtain ⟨z0,z1,z2,z3⟩:=(hR.set (.slice none 0 0) (.slice none 0 0) 0).cells
   rw [results_cell_tmp2 rfl]
   simp [go_sem,z0,z1,z2,z3]
  ·exact retTour_zero HX.out (below_set4 b4 (by omega) _ _ _ _)
 ·obtain ⟨hne,hld,hdp,hno⟩:=K.right_parts hr
  obtain ⟨hck,hset,hall⟩:=T.load_parts hld
  obtain ⟨-,⟨d0,d1⟩,st0,st1,en1⟩:=K.check_parts hck
  have HSET:=Lib.hid (T.isSetFrom_mem hset)
  have HALL:=Lib.hid hall
  have HNO:=Lib.hid hno
  have HRT:=Lib.hid hr
  have HNE:=Lib.hid hne
  clear hr hne hld hset hall hck hno
  obtain ⟨i0,hi,hz0,hz1,hz2⟩:=info_parts Tryz.info3
  have hrs:w.heap.size + 1 + 1 < w4.heap.size:=by have:=b34.size;have:=Z3.out;omega
  have HLN:=Lib.hid hV.1
  have hlit:(w4.alloc (.cells #[] 3)).ownsRow w4.heap.size 3 1 (.slice (some ⟨w4.heap.size,0,none⟩) 0 0) 0 []:=own_lit (heap_alloc_new w4 (.cells #[] 3)) (Nat.le_refl _)
  have ba4:Below w4.heap.size w4 (w4.alloc (.cells #[] 3)):=(Below.refl _ _).alloc (Nat.le_refl _) _
  go_wp2_with (at_builtin;refine wp_append_rd rfl (.tmp 25) (.tmp 26) 48 rfl w4.heap.size 3 i0 (.int .i64 0) 1 8 Tryz.underlying48 hi hz0 hz1 hz2 rfl (by decide) (.slice (some ⟨w4.heap.size,0,none⟩) 0 0) 0 [] rfl hlit V vn vc (intCells o) rfl (hV.below (bel b4 ba4)).2 (intCells_one o) (by simp only [maxLen];omega) (by omega) (by first | (simp;done) | (simp;omega)) ?_;intro v' w5 hown5 hgrow5 hat5;rw [Nat.zero_add,List.nil_append] at hown5;obtain ⟨SA,sc,rfl,hI5⟩:=own_ints hown5 HLN.out;have hSA:=(fun ad (e:SA=some ad)=>(hown5.lt _ (by rw [e];rfl)));have b45:Below w4.heap.size w4 w5:=below_own2 ba4 hgrow5 (lit_block (Nat.le_refl _));have b5a:Below w5.heap.size w5 (w5.alloc (.cells #[.int .i64 0,.slice SA vn sc,.slice none 0 0,.int .i64 0] 80)):=(Below.refl _ _).alloc (Nat.le_refl _) _;have g1:=((hS.below b45).below b5a).cells.2.1;have g2:=((hS.below b45).below b5a).cells.2.2.1)
  have b5:=bel b4 b45
  have hP:=hP.below b45
  have hS:=hS.below b45
  have hR:=hR.below b45 hrs
  have hrs5:w.heap.size + 1 + 1 < w5.heap.size:=by have:=b45.size;omega
  have hrel0:NRel x o w5 (.slice SA vn sc) 0 (.slice none 0 0) x.s.depot x.s.start [] (w5.alloc (.cells #[.int .i64 0,.slice SA vn sc,.slice none 0 0,.int .i64 0] 80)) :=
   ⟨by simp,rfl,heap_alloc_new w5 _,World.ownsRow_nil _ _ _ _,⟨d0,hdp⟩,⟨st0,by omega⟩,b5a⟩
  clear hown5 hgrow5 hat5 hlit ba4 hi hz0 hz1 hz2 b45 g1 g2 b5a b34
  go_loopw [12,13,14] (fun v12 v13 v14 wr=>∃ (k:Nat) (tv:Value) (a t:Int) (ts:List Int),v12=.int .i64 t∧v13=.int .i64 a∧v14=.int .i64 k∧k≤vn∧NRel x o w5 (.slice SA vn sc) k tv a t ts wr) (fun _ _ v14 _=>vn - (intOf v14).toNat)
  case atStart=>exact ⟨0,_,_,_,[],rfl,rfl,rfl,by omega,hrel0⟩
  case round =>
   clear hrel0
   obtain ⟨k,tv,a,t,ts,rfl,rfl,rfl,hk,hrr⟩:=hrel
   have hbr:=hrr.bw
   have hbw:=bel b5 hbr
   have hSr:=hS.below hbr
   have hPr:=hP.below hbr
   by_cases hlt:k < vn
   ·obtain ⟨adv,i,rfl,hi,ciw⟩:=hV.at_ hlt
    have ci:=(hbw.cell (cell_lt ciw)).trans ciw
    have him:=List.mem_of_getElem? hi
    obtain ⟨hi0,hi1⟩:=HSET.out i him
    obtain ⟨j,rfl⟩:∃ j:Nat,i=(j:Int):=⟨i.toNat,by omega⟩
    obtain ⟨q,hq⟩:∃ q,x.r[j]? = some q:=⟨_,List.getElem?_eq_getElem (by omega)⟩
    obtain ⟨⟨n0,-⟩,⟨e0,e1⟩,-⟩:=K.right_req (HALL.out q (List.mem_of_getElem? hq))
    have hnq:=HNO.out _ him
    rw [K.req_get hq] at hnq
    have HRQ:=Lib.hid (K.req_get hq)
    have HI:=Lib.hid hi
    have HRR:=Lib.hid hrr
    have ha0:=hrr.a0
    have ht0:=hrr.t0
    have him:j < x.m:=by rw [hx.reqs.1];omega
    have j0:(0:Int)≤(j:Int):=by omega
    have j1:(j:Int) < (x.m:Int):=by omega
    obtain ⟨adq,q',hB,hgq,-,y0,-,-,y3,-⟩:=hx.reqs.at_ him
    rw [hq] at hgq
    injection hgq with hgq
    subst hgq
    obtain ⟨lb,hlb⟩:∃ lb,lb=(K.leg x.nd x.l x.s x.r (o.take k) j a t).1:=⟨_,rfl⟩
    obtain ⟨le,hle⟩:∃ le,le=(K.leg x.nd x.l x.s x.r (o.take k) j a t).2:=⟨_,rfl⟩
    have hAr:=hx.below hbw
    have hIk:∀ w',Below wr.heap.size wr w'→Ints w' (some adv) k (o.take k):=fun w' h=>(hV.below (bel hbw h)).take (by omega)
    have CL:=fun z:Beh wr=>leg_any x (some adv) k vc (o.take k) j q a t z.val (hAr.below z.property) (hIk _ z.property) (by omega) HNE.out ha0 hq ⟨n0,hnq⟩ ht0 ⟨e0,e1⟩
    unfold Leg at CL
    simp only [←hlb,←hle,hB] at CL
    rw [hB]
    clear hB
    obtain ⟨s0,s1,s2,s3,s4,s5⟩:=hSr.cells
    have g0:=Beh.cell hPr.c0
    have g1:=Beh.cell hPr.c1
    have f0:=Beh.cell s0
    have f1:=Beh.cell s1
    have f2:=Beh.cell s2
    have f3:=Beh.cell s3
    have f4:=Beh.cell s4
    have f5:=Beh.cell s5
    have fi:=Beh.cell ci
    have k0:(0:Int)≤(k:Int):=by omega
    have k1:(k:Int)≤(vc:Int):=by omega
    have k2:(k:Int) < (vn:Int):=by omega
    have HLB:=Lib.hid hlb
    have HLE:=Lib.hid hle
    clear hi him hrr hlb hle s0 s1 s2 s3 s4 s5
    go_wp2_with fail
    refine reg_beh (by kernel_rfl) (by kernel_rfl) ?_
    repeat (go_big_quiet_step ((go_at_call 180;exact Beh.calls (CL _))))
    refine wpQuiet_nil ?_
    rintro w6 ⟨⟨_,b56⟩,rfl⟩
    have hb6w:=bel hbw b56
    have hR6:=hR.below (bel hbr b56) hrs5
    clear CL g0 g1 f0 f1 f2 f3 f4 f5 fi
    cases h0:(le == 0)
    ·have h0':(le != 0)=true:=by simp [bne,h0]
     have hne0:le ≠ 0:=by simpa using h0
     have HX:=Lib.hid (show K.run x.nd x.l x.s x.r o=⟨K.Tr.zero,le,k⟩ by
      rw [K.run_legs HRT.out HRR.out.legs,K.legs_no HI.out (by rw [←HLE.out];exact hne0),←HLE.out,if_pos hne0]
      simp [HRR.out.len])
     obtain ⟨r0,r1,r2,r3⟩:=hR6.cells
     have f0:=hR6.free 0
     have f1:=hR6.free 1
     have f2:=hR6.free 2
     have f3:=hR6.free 3
     clear h0 hne0
     go_wp2_with fail
     refine bodyPost_ret_by (v:=.tuple #[.agg #[.int .i64 0,.slice none 0 0,.slice none 0 0,.int .i64 0],.int .i64 le,.int .i64 k]) ?_ rfl ?_
     ·obtain ⟨z0,z1,z2,z3⟩:=(hR6.set (.slice none 0 0) (.slice none 0 0) 0).cells
      rw [results_cell_tmp2 rfl]
      simp [go_sem,z0,z1,z2,z3]
     ·exact retTour_zero HX.out (below_set4 hb6w (by omega) _ _ _ _)
    ·have h0':(le != 0)=false:=by simp [bne,h0]
     have hee:le=0:=by simpa using h0
     have HRE:=Lib.hid (show (0:Int)=(K.leg x.nd x.l x.s x.r (List.take k o) j a t).2 by rw [←hee];exact HLE.out)
     have hT6:=HRR.out.blk.below b56
     have u2:=hT6.cells.2.2.1
     have hown6:(w6.alloc (.cells #[.int .i64 lb] 3)).ownsRow (w5.heap.size + 1) 3 1 tv k (intCells ts):=(own_below HRR.out.own b56).alloc _
     have ba6:Below w6.heap.size w6 (w6.alloc (.cells #[.int .i64 lb] 3)):=(Below.refl _ _).alloc (Nat.le_refl _) _
     have hs5:=b56.size
     have hs4:=hbr.size
     have hbL:=HRR.out.own.lt
     have hlk:=K.leg_ok (nd:=x.nd) (l:=x.l) (s:=x.s) (r:=x.r) (v:=List.take k o) (i:=j) (a:=a) (t:=t) HRE.out.symm
     have hlb2:0≤lb∧lb≤1000000:=by
      obtain ⟨-,-,-,l4,l5,l6,l7⟩:=hlk
      obtain ⟨-,-,-,f1,f2⟩:=H.fit_ok l5
      obtain ⟨-,r2,r3,-⟩:=K.reach_ok l4
      have h9:=HLB.out
      rw [l6] at h9 l7
      rw [HRQ.out] at *
      omega
     obtain ⟨lb0,lb1⟩:=hlb2
     have hwrap:IntKind.i64.wrap (lb + q.service)=lb + q.service:=IntWalk.i64_in _ (by omega)
     have hs6:w5.heap.size + 1≤(w6.alloc (.cells #[.int .i64 lb] 3)).heap.size:=by rw [World.size_alloc];omega
     clear h0 hlk
     subst hee
     go_wp2_with (at_builtin;refine app_int rfl (.tmp 61) (.tmp 63) rfl (w5.heap.size + 1) tv k ts rfl hown6 w6.heap.size lb rfl (heap_alloc_at _ _ _ rfl) (by omega) hs6 ?_;intro tv' w7 hown7 hgrow7 hat7;obtain ⟨A7,c7,rfl,-,-⟩:=own_form hown7;have hT7:=grow_blk hgrow7 (hT6.below ba6) (fun e=>(by have:=(hbL _ e.symm).1;omega));have v2:=blk_free hT7 2;have v2c:=blk_cell hT7 2 _ rfl;have b7:Below w5.heap.size w5 w7:=below_own2 (bel (bel hbr b56) ba6) hgrow7 (fun g e=>(by have:=(hbL g e).1;omega));have b8:Below w.heap.size w (w7.setCell ⟨w5.heap.size,2,none⟩ (.slice A7 (k + 1) c7)):=bel b5 (b7.setCell (Nat.le_refl _) _);have yy0:=(b8.cell (cell_lt y0)).trans y0;have yy3:=(b8.cell (cell_lt y3)).trans y3;have ci8:=(b8.cell (cell_lt ciw)).trans ciw)
     have hN:=HRR.out.next HI.out HLB.out HRE.out rfl b56 hown7 hgrow7 (by rw [HRQ.out];exact ⟨n0,hnq⟩) (by rw [HRQ.out];exact e0)
     rw [HRQ.out] at hN
     go_roundw
     case rel=>exact ⟨k + 1,.slice A7 (k + 1) c7,_,_,ts ++ [lb],rfl,rfl,by go_num,by omega,hN⟩
     case measure=>simp [intOf];omega
   ·have hkv:vn=k:=by omega
    subst hkv
    have hto:o.take vn=o:=List.take_of_length_le (by rw [←hV.1];omega)
    have hdo:o.drop vn=[]:=List.drop_eq_nil_of_le (by rw [←hV.1];omega)
    have hl0:=hrr.legs
    rw [hto,hdo] at hl0
    have hl1:K.legs x.nd x.l x.s x.r [] x.s.depot x.s.start o=⟨ts,a,t,0⟩:=by rw [hl0];simp [K.legs]
    have hRn:=K.run_legs HRT.out hl1
    simp only [ne_eq,not_true_eq_false,if_false] at hRn
    have HRN:=Lib.hid hRn
    obtain ⟨A7,c7,rfl,hI7⟩:=own_ints hrr.own hrr.len.symm
    have hA7:∀ ad,A7=some ad→w5.heap.size + 1≤ad.block:=fun ad e=>(hrr.own.lt _ (by rw [e];rfl)).1
    have hblk:=hrr.blk
    have ha0:=hrr.a0
    have ht0:=hrr.t0
    clear hrr hto hdo hl0 hl1 hRn
    obtain ⟨dn,hdn⟩:∃ dn:Nat,x.s.depot=(dn:Int):=⟨x.s.depot.toNat,by omega⟩
    obtain ⟨s0,s1,s2,s3,s4,s5⟩:=hSr.cells
    have g0:=Beh.cell hPr.c0
    have g1:=Beh.cell hPr.c1
    have f0:=Beh.cell s0
    have f1:=Beh.cell s1
    have f2:=Beh.cell s2
    have f3:=Beh.cell s3
    have f4:=Beh.cell s4
    have f5:=Beh.cell s5
    have hA4:=hx.below hbw
    have hV4:=hV.below hbw
    obtain ⟨wt,hwt⟩:∃ wt,wt=T.weight x.s x.r o:=⟨_,rfl⟩
    obtain ⟨y,hy⟩:∃ y,y=K.way x.nd x.l a wt x.s.depot:=⟨_,rfl⟩
    have hdn2:(dn:Int) < x.nd:=by omega
    have CW:=fun j:Beh wr=>rweight_any x.s x.B x.m x.d x.r V vn vc o j.val ((hA4.below j.property).rooms) hx.b2 ((hA4.below j.property).reqs) hx.b3 hx.b4 (hV4.below j.property) (by omega)
    have CY:=fun j:Beh wr=>rway_any x.nd x.A x.n x.c x.l a dn wt j.val ((hA4.below j.property).net) hx.b1 HNE.out ha0 hdn2
    simp only [←hwt] at CW
    simp only [←hdn,←hy] at CY
    have hyb:=K.way_bd x.nd x.l a wt x.s.depot
    rw [←hy] at hyb
    obtain ⟨hy0,hy1⟩:=hyb
    have HY:=Lib.hid (show K.way x.nd x.l a (T.weight x.s x.r o) x.s.depot=y by rw [←hwt,hy])
    clear hy hwt hdn s0 s1 s2 s3 s4 s5
    go_wp2_with fail
    refine reg_beh (by kernel_rfl) (by kernel_rfl) ?_
    repeat (go_big_quiet_step ((first | (go_at_call 146;exact Beh.calls (CW _)) | (go_at_call 181;exact Beh.calls (CY _)))))
    refine wpQuiet_nil ?_
    rintro w6 ⟨⟨_,b56⟩,rfl⟩
    clear CW CY g0 g1 f0 f1 f2 f3 f4 f5 hA4 hV4
    have hb6w:=bel hbw b56
    have b6:=bel hbr b56
    have hR6:=hR.below b6 hrs5
    have hT6:=hblk.below b56
    obtain ⟨s0,s1,s2,s3,s4,s5⟩:=(hSr.below b56).cells
    obtain ⟨r0,r1,r2,r3⟩:=hR6.cells
    have f0:=hR6.free 0
    have f1:=hR6.free 1
    have f2:=hR6.free 2
    have f3:=hR6.free 3
    cases h1:decide (y < 0)
    rotate_left
    ·have HX:=Lib.hid (show K.run x.nd x.l x.s x.r o=⟨K.Tr.zero,4,vn⟩ by
      have hr:K.reach x.nd x.l x.s x.r o a t x.s.depot=(0,4):=by unfold K.reach;rw [HY.out,if_pos (by have h1:=of_decide_eq_true h1;omega)]
      rw [HRN.out,hr,if_pos (by decide),←HLN.out])
     go_wp2_with fail
     refine bodyPost_ret_by (v:=.tuple #[.agg #[.int .i64 0,.slice none 0 0,.slice none 0 0,.int .i64 0],.int .i64 4,.int .i64 vn]) ?_ rfl ?_
     ·obtain ⟨z0,z1,z2,z3⟩:=(hR6.set (.slice none 0 0) (.slice none 0 0) 0).cells
      rw [results_cell_tmp2 rfl]
      simp [go_sem,z0,z1,z2,z3]
     ·exact retTour_zero HX.out (below_set4 hb6w (by omega) _ _ _ _)
    have hyp:¬ y < 0:=of_decide_eq_false h1
    have hwrap:IntKind.i64.wrap (t + y)=t + y:=IntWalk.i64_in _ (by omega)
    cases h2:decide (x.s.end_ < t + y)
    rotate_left
    ·have HX:=Lib.hid (show K.run x.nd x.l x.s x.r o=⟨K.Tr.zero,18,vn⟩ by
      have hr:K.reach x.nd x.l x.s x.r o a t x.s.depot=(0,18):=by unfold K.reach;rw [HY.out,if_neg (by omega),if_pos (of_decide_eq_true h2)]
      rw [HRN.out,hr,if_pos (by decide),←HLN.out])
     go_wp2_with fail
     refine bodyPost_ret_by (v:=.tuple #[.agg #[.int .i64 0,.slice none 0 0,.slice none 0 0,.int .i64 0],.int .i64 18,.int .i64 vn]) ?_ rfl ?_
     ·obtain ⟨z0,z1,z2,z3⟩:=(hR6.set (.slice none 0 0) (.slice none 0 0) 0).cells
      rw [results_cell_tmp2 rfl]
      simp [go_sem,z0,z1,z2,z3]
     ·exact retTour_zero HX.out (below_set4 hb6w (by omega) _ _ _ _)
    have h2':¬ x.s.end_ < t + y:=of_decide_eq_false h2
    have HX:=Lib.hid (show K.run x.nd x.l x.s x.r o=⟨⟨o,ts,t + y⟩,0,o.length⟩ by
     have hr:K.reach x.nd x.l x.s x.r o a t x.s.depot=(t + y,0):=by unfold K.reach;rw [HY.out,if_neg (by omega),if_neg h2']
     rw [HRN.out,hr];simp)
    clear hyp h2' r0 r1 r2 r3 f0 f1 f2 f3
    have v3:=blk_free hT6 3
    have v3c:=blk_cell hT6 3 _ rfl
    have b7:Below w5.heap.size w5 (w6.setCell ⟨w5.heap.size,3,none⟩ (.int .i64 (t + y))):=b6.setCell (Nat.le_refl _) _
    have hT7:TBlk (w6.setCell ⟨w5.heap.size,3,none⟩ (.int .i64 (t + y))) w5.heap.size 0 (.slice SA vn sc) (.slice A7 vn c7) (t + y):=blk_set hT6 3 _
    obtain ⟨y0,y1,y2,y3⟩:=hT7.cells
    have hR7:=hR.below b7 hrs5
    obtain ⟨r0,r1,r2,r3⟩:=hR7.cells
    have f0:=hR7.free 0
    have f1:=hR7.free 1
    have f2:=hR7.free 2
    have f3:=hR7.free 3
    have hA6:Ints (w6.setCell ⟨w5.heap.size,3,none⟩ (.int .i64 (t + y))) SA vn o:=(hI5.below b6).set _ (fun ad e=>by have:=hSA ad e;omega)
    have hB6:Ints (w6.setCell ⟨w5.heap.size,3,none⟩ (.int .i64 (t + y))) A7 vn ts:=(hI7.below b56).set _ (fun ad e=>by have:=hA7 ad e;omega)
    go_wp2_with fail
    refine bodyPost_ret_by (v:=.tuple #[.agg #[.int .i64 0,.slice SA vn sc,.slice A7 vn c7,.int .i64 (t + y)],.int .i64 0,.int .i64 vn]) ?_ rfl ?_
    ·obtain ⟨z0,z1,z2,z3⟩:=(hR7.set (.slice SA vn sc) (.slice A7 vn c7) (t + y)).cells
     rw [results_cell_tmp2 rfl]
     simp [go_sem,z0,z1,z2,z3]
    ·exact retTour_mk HX.out rfl (by rw [HLN.out]) (bel b5 b7) hA6 hB6 (fun ad e=>by have:=hSA ad e;omega) (fun ad e=>by have:=hA7 ad e;omega) (by omega) rfl
set_option maxRecDepth 100000 in
set_option maxHeartbeats 8000000 in
theorem rtcheck_any (x:C) (y:TV) (w:World) (hx:At w x) (hy:TVAt w y) (hn:y.n≤100000) (hyc:y.n≤y.c) :
  Calls Tryz.prog 87 #[.agg #[.int .i64 x.nd,.slice x.A x.n x.c],.agg #[.int .i64 x.s.day,.int .i64 x.s.depot,.int .i64 x.s.start,.int .i64 x.s.end_,.int .i64 x.s.tare,.slice x.s.A x.s.n x.s.c],.slice x.B x.m x.d,.agg #[.int .i64 y.sh,.slice y.A y.n y.c,.slice y.A' y.n' y.c',.int .i64 y.t.end_]] w fun e w'=>e=.returned (.bool (K.check x.nd x.l x.s x.r y.t))∧Below w.heap.size w w':=by
 obtain ⟨w1,hw1⟩:∃ w1:World,w1=w.alloc (.cells #[.int .i64 x.nd,.slice x.A x.n x.c] 24):=⟨_,rfl⟩
 obtain ⟨w2,hw2⟩:∃ w2:World,w2=w1.alloc (.cells #[.int .i64 x.s.day,.int .i64 x.s.depot,.int .i64 x.s.start,.int .i64 x.s.end_,.int .i64 x.s.tare,.slice x.s.A x.s.n x.s.c] 63):=⟨_,rfl⟩
 obtain ⟨w3,hw3⟩:∃ w3:World,w3=w2.alloc (.cells #[.int .i64 y.sh,.slice y.A y.n y.c,.slice y.A' y.n' y.c',.int .i64 y.t.end_] 80):=⟨_,rfl⟩
 have z1:w1.heap.size=w.heap.size + 1:=by rw [hw1];exact World.size_alloc _ _
 have z2:w2.heap.size=w.heap.size + 1 + 1:=by rw [hw2,World.size_alloc,z1]
 have b01:Below w.heap.size w w1:=by rw [hw1];exact (Below.refl _ _).alloc (Nat.le_refl _) _
 have b12:Below w1.heap.size w1 w2:=by rw [hw2];exact (Below.refl _ _).alloc (Nat.le_refl _) _
 have b23:Below w2.heap.size w2 w3:=by rw [hw3];exact (Below.refl _ _).alloc (Nat.le_refl _) _
 have hP:Net w3 w.heap.size x.nd x.A x.n x.c:=by
  have h1:Net w1 w.heap.size x.nd x.A x.n x.c:=by rw [hw1];exact Net.new _ _ _ _ _
  exact (h1.below b12).below b23
 have hS:Shf w3 (w.heap.size + 1) x.s:=by
  have h1:Shf w2 (w.heap.size + 1) x.s:=by rw [←z1,hw2];exact Shf.new _ _
  exact h1.below b23
 have hT:TBlk w3 (w.heap.size + 1 + 1) y.sh (.slice y.A y.n y.c) (.slice y.A' y.n' y.c') y.t.end_:=by rw [←z2,hw3];exact heap_alloc_new _ _
 have b3:=bel (bel b01 b12) b23
 have p0:=hP.c0
 have p1:=hP.c1
 obtain ⟨s0,s1,s2,s3,s4,s5⟩:=hS.cells
 obtain ⟨t0,t1,t2,t3⟩:=hT.cells
 rw [hw3,hw2,hw1] at p0 p1 s0 s1 s2 s3 s4 s5 t0 t1 t2 t3
 go_enter Tryz.func87,Tryz.ntmps87
 go_wp2_with fail
 rw [←hw1,←hw2,←hw3]
 clear hw1 hw2 hw3 z1 z2 b01 b12 b23 p0 p1 s0 s1 s2 s3 s4 s5 t0 t1 t2 t3
 refine (rrun_any x y.A y.n y.c y.t.stops _ (hx.below b3) (hy.below b3).stops hyc hn).mono ?_
 rintro e w4 ⟨⟨A1,n1,c1,A2,n2,c2,rfl,hI1,hI2,-⟩,b34⟩
 have hlen:=K.run_len x.nd x.l x.s x.r y.t.stops
 obtain ⟨R,hR⟩:∃ R,R=K.run x.nd x.l x.s x.r y.t.stops:=⟨_,rfl⟩
 rw [←hR] at hI1 hI2 hlen ⊢
 have HR:=Lib.hid (show K.check x.nd x.l x.s x.r y.t=((R.e == 0) && (decide (R.tour.times=y.t.times) && (R.tour.end_ == y.t.end_))) by rw [hR];rfl)
 have hn1:n1≤1000000000:=by rw [hI1.1];have:=hlen.1;have:=hy.stops.1;omega
 have hn2:n2≤1000000000:=by rw [hI2.1];have:=hlen.2;have:=hy.stops.1;omega
 have HRR:=Lib.hid hR
 clear hR hlen
 have hT:=hT.below b34
 have hb:=bel b3 b34
 have ba:Below w4.heap.size w4 (w4.alloc (.cells #[.int .i64 0,.slice A1 n1 c1,.slice A2 n2 c2,.int .i64 R.tour.end_] 80)):=(Below.refl _ _).alloc (Nat.le_refl _) _
 have hT2:TBlk (w4.alloc (.cells #[.int .i64 0,.slice A1 n1 c1,.slice A2 n2 c2,.int .i64 R.tour.end_] 80)) w4.heap.size 0 (.slice A1 n1 c1) (.slice A2 n2 c2) R.tour.end_:=heap_alloc_new _ _
 have hT1:=hT.below ba
 obtain ⟨w5,hw5⟩:∃ w5:World,w5=w4.alloc (.cells #[.int .i64 0,.slice A1 n1 c1,.slice A2 n2 c2,.int .i64 R.tour.end_] 80):=⟨_,rfl⟩
 obtain ⟨q0,q1,q2,q3⟩:=hT1.cells
 obtain ⟨r0,r1,r2,r3⟩:=hT2.cells
 cases k0:(R.e == 0)
 ·have HX:=Lib.hid (show K.check x.nd x.l x.s x.r y.t=false by rw [HR.out,k0];rfl)
  clear hw5
  go_wp2_with fail
  go_ret
  exact ⟨ret_b HX.out.symm,bel hb ba⟩
 have HX:=Lib.hid (show K.check x.nd x.l x.s x.r y.t=K.same R.tour y.t by
  have hst:R.tour.stops=y.t.stops:=by
   have h0:(K.run x.nd x.l x.s x.r y.t.stops).e=0:=by rw [←HRR.out];simpa using k0
   rw [HRR.out,(K.run_ok h0).2.2.2]
  rw [HR.out,k0]
  simp [K.same,hst])
 rw [←hw5] at ba hT1 hT2
 have hb5:=bel hb ba
 have hI15:=hI1.below ba
 have hI25:=hI2.below ba
 go_wp2_with fail
 rw [←hw5]
 clear hw5 q0 q1 q2 q3 r0 r1 r2 r3 k0 HR
 refine (sameTour_any ⟨0,A1,n1,c1,A2,n2,c2,R.tour⟩ y _ ⟨hI15,hI25,hn1,hn2⟩ (hy.below hb5)).mono ?_
 rintro e w6 ⟨rfl,b56⟩
 have hb6:=bel hb5 b56
 go_wp2_with fail
 go_ret
 exact ⟨ret_b HX.out.symm,hb6⟩
set_option maxRecDepth 100000 in
set_option maxHeartbeats 16000000 in
theorem rchecks27_any (x:Cs) (TA:Option Addr) (tn tc:Nat) (ts:List TV) (w:World) (hx:CsAt w x) (hT:Tours w TA tn ts) (hF:FewT tn ts) (hyc:∀ y ∈ ts,y.n≤y.c) :
  Calls Tryz.prog 27 #[.agg #[.int .i64 x.nd,.slice x.A x.n x.c],.slice x.SA x.sn x.sc,.slice x.B x.m x.d,.slice TA tn tc] w fun e w'=>e=.returned (.int .i64 (K.checks x.nd x.l x.ss x.r (ts.map TV.pr)))∧Below w.heap.size w w':=by
 obtain ⟨w0,hw0⟩:∃ w0:World,w0=w.alloc (.cells #[.int .i64 x.nd,.slice x.A x.n x.c] 24):=⟨_,rfl⟩
 have b0:Below w.heap.size w w0:=by rw [hw0];exact (Below.refl _ _).alloc (Nat.le_refl _) _
 obtain ⟨G0,hG0⟩:∃ G0,G0=w.heap.size:=⟨_,rfl⟩
 have hN:Net w0 G0 x.nd x.A x.n x.c:=by rw [hw0,hG0];exact Net.new w x.nd x.A x.n x.c
 have p0:=hN.c0
 have p1:=hN.c1
 go_enter Tryz.func27,Tryz.ntmps27
 go_wp2_with fail
 rw [←hw0,←hG0]
 clear hw0 hG0
 refine (rstart69_any x _ (hx.below b0)).mono ?_
 obtain ⟨ce,hce⟩:∃ ce,ce=K.pcheck x.nd x.l x.ss x.r:=⟨_,rfl⟩
 rw [←hce]
 rintro e w1 ⟨rfl,b1⟩
 have hN1:=hN.below b1
 have hb1:=bel b0 b1
 clear p0 p1 b0 b1 hN
 by_cases hz:ce=0
 rotate_left
 ·have HX:=Lib.hid (show K.checks x.nd x.l x.ss x.r (ts.map TV.pr)=ce by rw [hce] at hz ⊢;exact K.checks_net hz)
  have hd:(ce != 0)=true:=by simp [bne,hz]
  clear hce
  go_wp2_with fail
  go_ret
  exact ⟨by rw [HX.out];rfl,hb1⟩
 subst hz
 have HOK:=Lib.hid hce.symm
 clear hce
 have HSN:=Lib.hid hx.shifts.1.1
 have HRN:=Lib.hid hx.reqs.1
 have HTN:=Lib.hid hT.1.1
 have hm6:x.m≤6:=by rw [HRN.out];exact (K.pcheck_ok HOK.out).2.2.2.2
 have hsn4:x.sn≤4:=by rw [HSN.out];exact (K.pcheck_ok HOK.out).2.1
 have HCK:=Lib.hid (show K.checks x.nd x.l x.ss x.r (ts.map TV.pr)=_ from K.checks_go HOK.out)
 obtain ⟨L,hL⟩:∃ L,L=ts.map TV.pr:=⟨_,rfl⟩
 rw [←hL] at HCK
 have HL:=Lib.hid hL
 obtain ⟨htn9,hty⟩:=hF
 have HYC:=Lib.hid hyc
 clear hyc
 clear hL
 have hown0:w1.ownsRow w1.heap.size 3 1 (.slice none 0 0) ([]:List Int).length (intCells []):=World.ownsRow_nil _ _ _ _
 go_wp2_with fail
 go_loopw [10,11] (fun v10 v11 wr=>∃ (k:Nat) (last:Int) (served:List Int),v11=.int .i64 k∧k≤tn∧wr.ownsRow w1.heap.size 3 1 v10 served.length (intCells served)∧Below w1.heap.size w1 wr∧Hid (served.Nodup∧(∀ z ∈ served,0≤z∧z < (x.m:Int)))∧served.length≤6∧Hid (K.checks x.nd x.l x.ss x.r L=K.checkGo x.nd x.l x.ss x.r last served (L.drop k))∧Hid ((k=0∧last=-1)∨∃ j y,k=j + 1∧ts[j]? = some y∧y.sh=last)) (fun _ v11 _=>tn - (intOf v11).toNat)
 case atStart=>exact ⟨0,-1,[],rfl,Nat.zero_le _,hown0,Below.refl _ _,⟨List.nodup_nil,fun z hz=>(by cases hz)⟩,Nat.zero_le _,HCK.out,.inl ⟨rfl,rfl⟩⟩
 case round =>
  clear hown0
  obtain ⟨k,last,served,rfl,hk,hown,hbr,hsv,hl6,hck,hla⟩:=hrel
  by_cases hlt:k < tn
  ·obtain ⟨ad,y,hTA,hy,⟨hI1,hI2⟩,c0,c1,c2,c3⟩:=(hT.below (bel hb1 hbr)).at_ hlt
   have HYM:=Lib.hid (List.mem_of_getElem? hy)
   obtain ⟨hyn,hyn'⟩:=hty y (List.mem_of_getElem? hy)
   have hLk:L[k]? = some y.pr:=by rw [HL.out,List.getElem?_map,hy];rfl
   have HDR:=Lib.hid (show K.checks x.nd x.l x.ss x.r L=K.checkGo x.nd x.l x.ss x.r last served (y.pr :: L.drop (k + 1)) by rw [hck.out,drop_of_some hLk])
   have HLA2:=Lib.hid (show ts[k]? = some y from hy)
   have k0:(0:Int)≤(k:Int):=by omega
   have k1:(k:Int) < (tn:Int):=by omega
   obtain ⟨g,hg⟩:∃ g,g=wr.heap.size:=⟨_,rfl⟩
   obtain ⟨w3,hw3⟩:∃ w3:World,w3=wr.alloc (.cells #[.int .i64 y.sh,.slice y.A y.n y.c,.slice y.A' y.n' y.c',.int .i64 y.t.end_] 80):=⟨_,rfl⟩
   have b3:Below wr.heap.size wr w3:=by rw [hw3];exact (Below.refl _ _).alloc (Nat.le_refl _) _
   have hB3:TBlk w3 g y.sh (.slice y.A y.n y.c) (.slice y.A' y.n' y.c') y.t.end_:=by rw [hw3,hg];exact heap_alloc_new _ _
   have hown3:=own_below hown b3
   have hb3:=bel hbr b3
   have hI13:=hI1.below b3
   have hI23:=hI2.below b3
   have hN3:=hN1.below hb3
   have hTp:=hT.below (bel hb1 hb3)
   clear hy hLk hck hown hI1 hI2 hbr
   have HYN:=Lib.hid hI13.1
   obtain ⟨t0,t1,t2,t3⟩:=hB3.cells
   rw [hTA]
   go_upto_region 9 with fail
   rw [←hw3,←hg]
   clear hw3 hg c0 c1 c2 c3 b3
   by_cases hneg:y.sh < 0
   ·have hd1:decide (y.sh < 0)=true:=decide_eq_true hneg
    have HX:=Lib.hid (show K.checks x.nd x.l x.ss x.r L=1 by rw [HDR.out];exact K.cg_neg (.inl hneg))
    clear hneg
    go_wp2_with fail
    go_ret
    exact ⟨by rw [←HL.out,HX.out];rfl,bel hb1 hb3⟩
   have hd1:decide (y.sh < 0)=false:=decide_eq_false hneg
   by_cases hbig:(x.sn:Int)≤y.sh
   ·have hd2:decide ((x.sn:Int)≤y.sh)=true:=decide_eq_true hbig
    have HX:=Lib.hid (show K.checks x.nd x.l x.ss x.r L=1 by rw [HDR.out];exact K.cg_neg (.inr (by rw [←HSN.out];exact hbig)))
    clear hneg hbig
    go_wp2_with fail
    go_ret
    exact ⟨by rw [←HL.out,HX.out];rfl,bel hb1 hb3⟩
   have hd2:decide ((x.sn:Int)≤y.sh)=false:=decide_eq_false hbig
   obtain ⟨s,hs⟩:∃ s:Nat,y.sh=(s:Int):=⟨y.sh.toNat,by omega⟩
   have hsn:s < x.sn:=by omega
   obtain ⟨ads,sS,hSA,hsS,hIS,s0,s1,s2,s3,s4,s5⟩:=((hx.below hb1).below hb3).shifts.at_ hsn
   have HST:Hid (K.checks x.nd x.l x.ss x.r L=if y.sh≤last then 5 else if y.t.stops.isEmpty || !(K.check x.nd x.l sS x.r y.t) then 24 else if y.t.stops.any (fun k=>served.any (· == k)) then 5 else K.checkGo x.nd x.l x.ss x.r y.sh (served ++ y.t.stops) (L.drop (k + 1))) :=
    Lib.hid (HDR.out.trans (K.cg_some (t:=y.pr) (by show 0≤y.sh;omega) (by show x.ss[y.sh.toNat]? = _;rw [hs];exact hsS)))
   have hsm:=List.mem_of_getElem? hsS
   have HSS:=Lib.hid hs
   have HSX:=Lib.hid hsS
   clear hs HDR hsS hneg hbig hSA
   obtain ⟨zl,hzl⟩:∃ z,z=decide (y.sh≤last):=⟨_,rfl⟩
   have HZL:=Lib.hid hzl
   clear hzl
   go_upto_region 11 with fail
   clear hd1 hd2
   go_cut [54] from 41 to 54 (fun v54 wc=>v54=.bool zl∧Below w3.heap.size w3 wc)
   case first =>
    have q0:=Beh.cell t0
    rcases hla.out with ⟨rfl,hl9⟩ | ⟨j,yj,rfl,hyj,hl9⟩
    ·have hz0:zl=false:=by rw [HZL.out,hl9,HSS.out];simp;omega
     subst hz0
     have f1:decide ((0:Int) < ((0:Nat):Int))=false:=by decide
     clear s0 s1 s2 s3 s4 s5 t0 t1 t2 t3
     refine reg_beh (by kernel_rfl) (by kernel_rfl) ?_
     repeat (go_big_quiet_step (fail))
     refine wpQuiet_nil ?_
     rintro w4 ⟨⟨w4,b4⟩,rfl⟩
     go_wp2_with fail
     go_meet
     exact ⟨rfl,b4⟩
    ·obtain ⟨adj,yj',hTA',hyj',-,cj0,-,-,-⟩:=hTp.at_ (show j < tn by omega)
     rw [hTA] at hTA'
     injection hTA' with hTA'
     subst hTA'
     rw [hyj] at hyj'
     injection hyj' with hyj'
     subst hyj'
     have qj:=Beh.cell cj0
     have f1:decide ((0:Int) < ((j + 1:Nat):Int))=true:=by simp
     have f2:((j + 1:Nat):Int) - 1=(j:Int):=by omega
     have f3:IntKind.i64.wrap (((j + 1:Nat):Int) - 1)=(j:Int):=by rw [f2];exact IntWalk.i64_in _ (by omega)
     have f4:decide ((j:Int) < 0)=false:=by simp
     have f5:max (j:Int) 0=(j:Int):=by omega
     have f6:(j:Int) < (tn:Int):=by omega
     have f7:(0:Int)≤(j:Int):=by omega
     have f8:decide (y.sh≤yj.sh)=zl:=by rw [HZL.out,hl9]
     clear s0 s1 s2 s3 s4 s5 t0 t1 t2 t3 hyj hl9
     refine reg_beh (by kernel_rfl) (by kernel_rfl) ?_
     repeat (go_big_quiet_step (fail))
     refine wpQuiet_nil ?_
     rintro w4 ⟨⟨w4,b4⟩,rfl⟩
     go_wp2_with fail
     go_meet
     trace_state
     exact ⟨rfl,b4⟩
   case rest =>
    obtain ⟨rfl,b4⟩:=hcut
    have hB4:=hB3.below b4
    have hown4:=own_below hown3 b4
    have hb4:=bel hb3 b4
    have hI14:=hI13.below b4
    have hI24:=hI23.below b4
    have hN4:=hN3.below b4
    have hx4:=((hx.below hb1).below hb3).below b4
    clear t0 t1 t2 t3 s0 s1 s2 s3 s4 s5 hB3 hown3 hI13 hI23 hN3 hTp hIS
    cases zl
    rotate_left
    ·have HX:=Lib.hid (show K.checks x.nd x.l x.ss x.r L=5 by rw [HST.out,if_pos (of_decide_eq_true HZL.out.symm)])
     go_wp2_with fail
     go_ret
     exact ⟨by rw [←HL.out,HX.out];rfl,bel hb1 hb4⟩
    have HST2:=Lib.hid (HST.out.trans (if_neg (of_decide_eq_false HZL.out.symm)))
    obtain ⟨t0,t1,t2,t3⟩:=hB4.cells
    clear HST HZL
    go_wp2_with fail
    by_cases hn0:y.n=0
    ·have hd4:((y.n:Int) == 0)=true:=by rw [hn0];rfl
     have hd5:decide ((y.n:Int)=0)=true:=by rw [hn0];rfl
     have HX:=Lib.hid (show K.checks x.nd x.l x.ss x.r L=24 by
      rw [HST2.out,show y.t.stops=[] from List.length_eq_zero_iff.1 (by rw [←HYN.out];exact hn0)];rfl)
     clear hn0
     go_quiet (fail)
     go_wp2_with fail
     go_ret
     exact ⟨by rw [←HL.out,HX.out];rfl,bel hb1 (below_drewN hb4 _)⟩
    have hd4:((y.n:Int) == 0)=false:=by simp [hn0]
    have hd5:decide ((y.n:Int)=0)=false:=by simp [hn0]
    have hie:y.t.stops.isEmpty=false:=by
     cases he:y.t.stops with
     | nil=>have h9:=HYN.out;rw [he] at h9;exact absurd h9 hn0
     | cons a b=>rfl
    rw [hie,Bool.false_or] at HST2
    obtain ⟨ads',sS',hSA',hsS',hIS',s0,s1,s2,s3,s4,s5⟩:=hx4.shifts.at_ hsn
    obtain rfl:sS'=sS:=by have:=HSX.out;rw [hsS'] at this;injection this
    have p0:=Beh.cell hN4.c0
    have p1:=Beh.cell hN4.c1
    have q0:=Beh.cell t0
    have q1:=Beh.cell t1
    have q2:=Beh.cell t2
    have q3:=Beh.cell t3
    have r0:=Beh.cell s0
    have r1:=Beh.cell s1
    have r2:=Beh.cell s2
    have r3:=Beh.cell s3
    have r4:=Beh.cell s4
    have r5:=Beh.cell s5
    obtain ⟨cb,hcb⟩:∃ cb,cb=K.check x.nd x.l sS' x.r y.t:=⟨_,rfl⟩
    have HCB:=Lib.hid hcb
    rw [←hcb] at HST2
    have CT2:∀ i:Beh wc,Calls Tryz.prog 87 #[.agg #[.int .i64 x.nd,.slice x.A x.n x.c],.agg #[.int .i64 sS'.day,.int .i64 sS'.depot,.int .i64 sS'.start,.int .i64 sS'.end_,.int .i64 sS'.tare,.slice sS'.A sS'.n sS'.c],.slice x.B x.m x.d,.agg #[.int .i64 s,.slice y.A y.n y.c,.slice y.A' y.n' y.c',.int .i64 y.t.end_]] i.val fun e w'=>e=.returned (.bool cb)∧Below i.val.heap.size i.val w':=fun i=>by
     rw [hcb]
     have h9:=rtcheck_any (x.one sS') y i.val ((hx4.below i.property).case hsm) ⟨hI14.below i.property,hI24.below i.property,by omega,hyn'⟩ hyn (HYC.out y HYM.out)
     rw [HSS.out] at h9
     exact h9
    have ks0:(0:Int)≤(s:Int):=by omega
    have ks1:(s:Int) < (x.sn:Int):=by omega
    clear hcb hie hn0 hsS' hIS' s0 s1 s2 s3 s4 s5
    rw [HSS.out] at t0 q0
    rw [hSA']
    have HSA:=Lib.hid hSA'
    clear hSA'
    refine reg_beh (by kernel_rfl) (by kernel_rfl) ?_
    repeat (go_big_quiet_step ((go_at_call 87;exact Beh.calls (CT2 _))))
    refine wpQuiet_nil ?_
    rintro w5 ⟨⟨w5,b5⟩,rfl⟩
    rw [←HSA.out]
    have hB5:=hB4.below b5
    have hown5:=own_below hown4 b5
    have hb5:=bel hb4 b5
    have hI15:=hI14.below b5
    clear p0 p1 q0 q1 q2 q3 r0 r1 r2 r3 r4 r5 t0 t1 t2 t3 CT2 hB4 hown4 hI14 hI24 hN4 hx4 hd4 hd5 ks0 ks1 b5 b4
    obtain ⟨t0,t1,t2,t3⟩:=hB5.cells
    cases cb
    ·have HX:=Lib.hid (show K.checks x.nd x.l x.ss x.r L=24 by rw [HST2.out];rfl)
     clear t0 t1 t2 t3
     go_wp2_with fail
     go_ret
     exact ⟨by rw [←HL.out,HX.out];rfl,bel hb1 hb5⟩
    rw [show (!true)=false from rfl]
    obtain ⟨-,hst2,hst3⟩:=K.check_run HCB.out.symm
    have HS3:=Lib.hid hst3
    have HS2:=Lib.hid (show ∀ z ∈ y.t.stops,0≤z∧z < (x.m:Int) from fun z hz=>by have:=hst2 z hz;have:=HRN.out;omega)
    have HST3:=Lib.hid (show K.checks x.nd x.l x.ss x.r L=if y.t.stops.any (fun k=>served.any (· == k)) then 5 else K.checkGo x.nd x.l x.ss x.r y.sh (served ++ y.t.stops) (L.drop (k + 1)) by rw [HST2.out];rfl)
    have hown5c:=hown5
    obtain ⟨A9,c9,rfl,hRd9,hF9⟩:=own_form hown5c
    clear hown5c
    have hIs:Ints w5 A9 served.length served:=⟨rfl,hRd9⟩
    clear HST2 hst2 hst3 t0 t1 t2 t3
    go_wp2_with fail
    go_loopw [13] (fun v13 wi=>∃ j:Nat,v13=.int .i64 j∧j≤y.n∧Hid (y.t.stops.any (fun k=>served.any (· == k))=(y.t.stops.drop j).any (fun k=>served.any (· == k)))∧Below w5.heap.size w5 wi) (fun v13 _=>y.n - (intOf v13).toNat)
    case atStart=>exact ⟨0,rfl,Nat.zero_le _,(by show _=_;rw [List.drop_zero]),Below.refl _ _⟩
    case round =>
     obtain ⟨j,rfl,hj,hany,hbi⟩:=hrel
     have hBi:=hB5.below hbi
     obtain ⟨t0,t1,t2,t3⟩:=hBi.cells
     by_cases hltj:j < y.n
     ·obtain ⟨ady,z,hyA,hz,cz⟩:=(hI15.below hbi).at_ hltj
      have HAN:=Lib.hid (drop_any (p:=fun k=>served.any (· == k)) hz)
      obtain ⟨hb_,hhb⟩:∃ b,b=served.any (· == z):=⟨_,rfl⟩
      have HHB:=Lib.hid hhb
      have CH:=has55_any A9 served.length c9 served z wr (hIs.below hbi) (by omega)
      rw [←hhb] at CH
      have kj0:(0:Int)≤(j:Int):=by omega
      have kj1:(j:Int) < (y.n:Int):=by omega
      clear hz hhb
      rw [hyA] at t1
      clear hyA
      go_wp2_with fail
      refine CH.mono ?_
      rintro e w6 ⟨rfl,b6⟩
      have hb6:=bel hbi b6
      clear t0 t1 t2 t3 CH
      cases hb_
      ·go_wp2_with fail
       go_roundw
       case rel=>(go_light;exact ⟨j + 1,by go_num,hltj,(by show _=_;rw [hany.out,HAN.out,←HHB.out];rfl),hb6⟩)
       case measure=>(go_light;simp [intOf];omega)
      ·have HX:=Lib.hid (show K.checks x.nd x.l x.ss x.r L=5 by rw [HST3.out,hany.out,HAN.out,←HHB.out];rfl)
       go_wp2_with fail
       go_ret
       exact ⟨by rw [←HL.out,HX.out];rfl,bel hb1 (bel hb5 hb6)⟩
     ·have hd:decide ((j:Int) < (y.n:Int))=false:=by simp;omega
      have hd2:decide (j < y.n)=false:=by simp;omega
      have HDB:=Lib.hid (show y.t.stops.any (fun k=>served.any (· == k))=false by
       rw [hany.out,List.drop_eq_nil_of_le (by rw [←HYN.out];omega)];rfl)
      have HST4:=Lib.hid (show K.checks x.nd x.l x.ss x.r L=K.checkGo x.nd x.l x.ss x.r y.sh (served ++ y.t.stops) (L.drop (k + 1)) by rw [HST3.out,HDB.out];rfl)
      have hnd:=K.nodup_app hsv.out.1 HS3.out HDB.out
      have hrg:∀ z ∈ served ++ y.t.stops,0≤z∧z < (x.m:Int):=fun z hz=>(List.mem_append.1 hz).elim (hsv.out.2 z) (HS2.out z)
      have hlen:=K.nodup_len hnd hrg
      have hln6:(served ++ y.t.stops).length≤6:=by omega
      have HND:=Lib.hid (And.intro hnd hrg)
      have HSN2:=Lib.hid (show y.n=y.t.stops.length from HYN.out)
      have hown6:=own_below hown5 hbi
      have hIy:=hI15.below hbi
      obtain ⟨i0,hi,hz0,hz1,hz2⟩:=info_parts Tryz.info3
      have hl9:served.length + y.n≤1000:=by rw [List.length_append] at hln6;have:=HYN.out;omega
      have hsz9:w1.heap.size≤wr.heap.size:=Nat.le_trans hb5.size hbi.size
      have hb6:=bel hb5 hbi
      have HKT:=Lib.hid (show k + 1≤tn from hlt)
      clear hnd hrg hlen hlt HST3 hany hltj hj
      go_wp2_with (first
       | (at_builtin;refine wp_append_rd rfl _ _ 48 rfl w1.heap.size 3 i0 (.int .i64 0) 1 8 Tryz.underlying48 hi hz0 hz1 hz2 rfl (by decide) _ served.length (intCells served) rfl hown6 y.A y.n y.c (intCells y.t.stops) rfl hIy.2 (intCells_one _) (by simp only [maxLen];omega) (by omega) hsz9 ?_;intro v7 w7 hown7 hgr7 _)
       | fail)
      have hb7:Below w1.heap.size w1 w7:=below_own2 hb6 hgr7 (fun g e=>(hown6.lt g e).1)
      have hown7':w7.ownsRow w1.heap.size 3 1 v7 (served ++ y.t.stops).length (intCells (served ++ y.t.stops)):=by
       rw [List.length_append,←HSN2.out,intCells_app]
       exact hown7
      clear hown7 hown6 t0 t1 t2 t3
      go_roundw
      case rel=>(go_light;exact ⟨k + 1,y.sh,served ++ y.t.stops,by go_num,HKT.out,hown7',hb7,HND.out,hln6,HST4.out,.inr ⟨k,y,rfl,HLA2.out,rfl⟩⟩)
      case measure=>(go_light;simp [intOf];omega)
  ·have HE:=Lib.hid (show K.checks x.nd x.l x.ss x.r L=if served.length < x.m then 4 else 0 by
    rw [hck.out,List.drop_eq_nil_of_le (by rw [HL.out,List.length_map,←HTN.out];omega),HRN.out]
    rfl)
   have hdk:decide ((k:Int) < (tn:Int))=false:=by simp;omega
   have hdk2:decide (k < tn)=false:=by simp;omega
   obtain ⟨A9,c9,rfl,-,-⟩:=own_form hown
   by_cases hlm:served.length < x.m
   ·have hd:decide ((served.length:Int) < (x.m:Int))=true:=by simp;omega
    have hdn:decide (served.length < x.m)=true:=decide_eq_true hlm
    go_wp2_with fail
    go_ret
    exact ⟨by rw [←HL.out,HE.out,if_pos hlm];rfl,bel hb1 hbr⟩
   ·have hd:decide ((served.length:Int) < (x.m:Int))=false:=by simp;omega
    have hdn:decide (served.length < x.m)=false:=decide_eq_false hlm
    go_wp2_with fail
    go_ret
    exact ⟨by rw [←HL.out,HE.out,if_neg hlm];rfl,bel hb1 hbr⟩
set_option maxHeartbeats 4000000 in
theorem samelab_any (A B:Option Addr) (n m c d:Nat) (la lb:List Lb) (w:World) (hla:Labs w A n la) (hlb:Labs w B m lb) (hn:n≤1000000000) (hm:m≤1000000000) :
  Calls Tryz.prog 83 #[.slice A n c,.slice B m d] w fun e w'=>e=.returned (.bool (decide (la=lb)))∧Below w.heap.size w w':=by
 by_cases hnm:n=m
 ·obtain rfl:=hnm
  go_enter Tryz.func83,Tryz.ntmps83
  go_wp2_with fail
  go_loopw [5] (fun vi wr=>∃ k:Nat,vi=.int .i64 k∧k≤n∧Hid (la.take k=lb.take k)∧Below w.heap.size w wr) (fun vi _=>n - (intOf vi).toNat)
  case atStart=>exact ⟨0,rfl,by omega,rfl,Below.refl _ _⟩
  case round =>
   obtain ⟨k,rfl,hk,hr,hb⟩:=hrel
   by_cases hlt:k < n
   ·obtain ⟨ad,o,rfl,hg,c0,c1,c2⟩:=Labs.at_ (Lst.below hla hb) hlt
    obtain ⟨ad2,o2,rfl,hg2,d0,d1,d2⟩:=Labs.at_ (Lst.below hlb hb) hlt
    have HN:=Lib.hid (take_eq_nextl hg hg2 hr.out)
    have k0:(0:Int)≤(k:Int):=by omega
    have k1:(k:Int) < (n:Int):=by omega
    clear hg hg2
    cases e1:(o.set == o2.set)
    ·have HX:=Lib.hid (fun h=>(show ¬ o=o2 from fun e=>by rw [e] at e1;simp at e1) (HN.out.1 h))
     go_wp2_with fail
     go_quiet (fail)
     go_wp2_with fail
     go_ret
     exact ⟨ret_b (Eq.symm (decide_eq_false (fun h=>HX.out (by rw [h])))),below_drewN hb _⟩
    cases e2:(o.last == o2.last)
    ·have HX:=Lib.hid (fun h=>(show ¬ o=o2 from fun e=>by rw [e] at e2;simp at e2) (HN.out.1 h))
     go_wp2_with fail
     go_quiet (fail)
     go_wp2_with fail
     go_ret
     exact ⟨ret_b (Eq.symm (decide_eq_false (fun h=>HX.out (by rw [h])))),below_drewN hb _⟩
    cases e3:(o.time == o2.time)
    ·have HX:=Lib.hid (fun h=>(show ¬ o=o2 from fun e=>by rw [e] at e3;simp at e3) (HN.out.1 h))
     go_wp2_with fail
     go_quiet (fail)
     go_wp2_with fail
     go_ret
     exact ⟨ret_b (Eq.symm (decide_eq_false (fun h=>HX.out (by rw [h])))),below_drewN hb _⟩
    have HX:=Lib.hid (HN.out.2 (Lb.eq_iff.2 ⟨by simpa using e1,by simpa using e2,by simpa using e3⟩))
    go_wp2_with fail
    go_quiet (fail)
    go_wp2_with fail
    go_roundw
    case rel=>exact ⟨k + 1,by go_num,by omega,HX.out,below_drewN hb _⟩
    case measure=>simp [intOf];omega
   ·have HX:=Lib.hid (show la=lb by
     have h:=hr.out
     rw [List.take_of_length_le (by rw [←hla.1];omega),List.take_of_length_le (by rw [←hlb.1];omega)] at h
     exact h)
    go_wp2_with fail
    go_ret
    exact ⟨ret_b (Eq.symm (decide_eq_true HX.out)),hb⟩
 ·have HX:=Lib.hid (show ¬ la=lb from fun h=>hnm (by rw [hla.1,hlb.1,h]))
  have q1:(((n:Nat):Int) != ((m:Nat):Int))=true:=by simp;omega
  go_enter Tryz.func83,Tryz.ntmps83
  go_wp2_with fail
  go_ret
  exact ⟨ret_b (Eq.symm (decide_eq_false HX.out)),Below.refl _ _⟩
namespace K
def nextI (l:List Int):Nat→Option Nat
 | 0=>none
 | j + 1=>if (l[j + 1]?).getD 0 < (l[j]?).getD 0 then nextI l j else some j
section
variable {f : Int → Int} {l : List Int}
def Keeps (f:Int→Int) (l:List Int):Prop:=∀ a ∈ l,∀ b ∈ l,(f a < f b ↔ a < b)
end
end K
namespace K
theorem noted_comm {y1 t1 y2 t2:Int} (f:Int) (g1:-1≤y1) (g2:-1≤t1) (g3:-1≤y2) (g4:-1≤t2):noted y1 (noted y2 f t2) t1=noted y2 (noted y1 f t1) t2:=by
 unfold noted
 by_cases h1:y1=-1 <;> by_cases h2:y2=-1 <;> by_cases h3:t1=-1 <;> by_cases h4:t2=-1 <;> simp only [h1,h2,h3,h4,ne_eq,not_true_eq_false,not_false_eq_true,false_and,true_and,if_false,and_false] <;> (repeat' split) <;> omega
theorem firsts_noted {nd:Int} {l:List Ro} {wt tn y t:Int} (hy:-1≤y) (ht:-1≤t):∀ (z:List (Int × Int)) (f:Int),(∀ p ∈ z,-1≤p.2)→firsts nd l wt tn z (noted y f t)=noted y (firsts nd l wt tn z f) t
 | [],_,_=>rfl
 | p :: z,f,hz=>by
  have h1:∀ f,firsts nd l wt tn (p :: z) f=firsts nd l wt tn z (noted (way nd l p.1 wt tn) f p.2):=fun _=>rfl
  rw [h1,h1,noted_comm f (way_bd _ _ _ _ _).1 (hz p (List.mem_cons_self ..)) hy ht,firsts_noted hy ht z _ fun q hq=>hz q (List.mem_cons_of_mem _ hq)]
def may (s:S) (r:List Q) (q:Q) (all:List Int) (f:Int):Bool :=
 (H.fit q.l f q.service).2 && (decide (0≤f) && (decide (f≤s.end_) && (decide ((H.fit q.l f q.service).1 + q.service≤s.end_) && (T.fits s r all && (decide (q.frm≤s.day) && decide (s.day≤q.by_))))))
theorem labelOf_may {s:S} {r:List Q} {q:Q} {all:List Int} {f:Int}:labelOf s r q all f=if may s r q all f=true then (H.fit q.l f q.service).1 + q.service else -1:=by
 unfold labelOf
 by_cases h1:f=-1
 ·rw [if_pos h1,if_neg]
  simp only [may,Bool.and_eq_true,decide_eq_true_eq]
  omega
 rw [if_neg h1]
 by_cases h2:(begins s r q all f).2=true
 ·rw [if_pos h2]
  obtain ⟨a1,a2,a3,a4,a5,a6,a7⟩:=begins_ok h2
  rw [a3] at a6 ⊢
  have a8:¬ (s.day < q.frm∨q.by_ < s.day∨s.end_ < f∨T.fits s r all=false):=fun h=>(a1 ▸ h:False)
  rw [if_pos]
  simp only [may,Bool.and_eq_true,decide_eq_true_eq]
  have a9:T.fits s r all=true:=by
   cases h:T.fits s r all with
   | true=>rfl
   | false=>exact absurd (.inr (.inr (.inr h))) a8
  have b1:¬ s.day < q.frm:=fun h=>a8 (.inl h)
  have b2:¬ q.by_ < s.day:=fun h=>a8 (.inr (.inl h))
  have b3:¬ s.end_ < f:=fun h=>a8 (.inr (.inr (.inl h)))
  exact ⟨a2,a4,by omega,a6,a9,by omega,by omega⟩
 ·rw [if_neg h2,if_neg]
  intro h
  simp only [may,Bool.and_eq_true,decide_eq_true_eq] at h
  obtain ⟨c1,c2,c3,c4,c5,c6,c7⟩:=h
  apply h2
  unfold begins
  rw [if_neg]
  ·simp only [Bool.and_eq_true,decide_eq_true_eq]
   exact ⟨c1,c4⟩
  ·rintro (h | h | h | h)
   ·omega
   ·omega
   ·omega
   ·rw [c5] at h;cases h
section
variable (nd : Int) (l : List Ro) (s : S) (r : List Q) (v : List Int)
def locGo (rest:Nat) (tn:Int):Nat→Int
 | 0=>-1
 | i + 1=>noted (way nd l (req r ((v[i]?).getD 0)).node (T.weight s r (part v rest)) tn) (locGo rest tn i) (lab nd l s r v rest i)
def locF (rest:Nat) (tn:Int):Int:=noted (way nd l s.depot (T.weight s r (part v rest)) tn) (locGo nd l s r v rest tn v.length) (if rest=0 then s.start else -1)
def nlab (m i:Nat):Nat:=(tabLabs v.length (table nd l s r v (2 ^ v.length)) m).length + (rowLabs m (((table nd l s r v (2 ^ v.length))[m]?).getD []) i).length
end
section
variable {nd : Int} {l : List Ro} {s : S} {r : List Q} {v : List Int}
theorem locGo_bd (hc:Case31 nd l s r v) (rest:Nat) (tn:Int):∀ i,-1≤locGo nd l s r v rest tn i∧locGo nd l s r v rest tn i≤60001000000
 | 0=>by simp [locGo]
 | i + 1=>by
  have h1:=locGo_bd hc rest tn i
  have h2:=way_bd nd l (req r ((v[i]?).getD 0)).node (T.weight s r (part v rest)) tn
  have h3:=lab_bd hc rest i
  rw [locGo]
  unfold noted
  split <;> omega
theorem locF_bd (hc:Case31 nd l s r v) (hs:s.start≤1000000) (rest:Nat) (tn:Int):-1≤locF nd l s r v rest tn∧locF nd l s r v rest tn≤60001000000:=by
 have h1:=locGo_bd hc rest tn v.length
 have h2:=way_bd nd l s.depot (T.weight s r (part v rest)) tn
 have h3:=hc.start
 unfold locF
 by_cases h:rest=0
 ·rw [if_pos h]
  unfold noted
  split <;> omega
 ·rw [if_neg h,noted_no2 rfl]
  exact h1
theorem locGo_firsts (rest:Nat) (tn:Int):∀ i,i≤v.length→locGo nd l s r v rest tn i=firsts nd l (T.weight s r (part v rest)) tn (((nodes r v).zip (rowOf nd l s r v (table nd l s r v rest) rest)).take i) (-1)
 | 0,_=>rfl
 | i + 1,hi=>by
  have hil:i < v.length:=hi
  have hz:((nodes r v).zip (rowOf nd l s r v (table nd l s r v rest) rest))[i]? = some ((req r ((v[i]?).getD 0)).node,lab nd l s r v rest i):=by
   rw [List.getElem?_zip_eq_some]
   refine ⟨by rw [nodes,List.getElem?_map,List.getElem?_eq_getElem hil];rfl,?_⟩
   unfold lab
   rw [List.getElem?_eq_getElem (by rw [rowOf_len];exact hil),Option.getD_some]
  rw [locGo,locGo_firsts rest tn i (by omega),take_snoc hz]
  unfold firsts
  rw [List.foldl_append]
  rfl
theorem locF_arrives (hc:Case31 nd l s r v) (rest:Nat) (q:Q):locF nd l s r v rest q.node=arrives nd l s r v (rowOf nd l s r v (table nd l s r v rest) rest) rest q:=by
 have h1:first0 nd l s (T.weight s r (part v rest)) q.node rest=noted (way nd l s.depot (T.weight s r (part v rest)) q.node) (-1) (if rest=0 then s.start else -1):=by
  unfold first0
  by_cases h:rest=0
  ·rw [if_pos h,if_pos h]
  ·rw [if_neg h,if_neg h,noted_no2 rfl]
 unfold arrives locF
 have hst:=hc.start
 rw [h1,firsts_noted (way_bd _ _ _ _ _).1 (by split <;> omega) _ _ fun p hp=>?_,locGo_firsts rest q.node v.length (Nat.le_refl _),List.take_of_length_le (by rw [List.length_zip,rowOf_len];omega)]
 obtain ⟨a,b⟩:=p
 exact (rowOf_bd (fun k hk=>(hc.ok k hk).1) b (List.of_mem_zip hp).2).1
theorem lab_local (hc:Case31 nd l s r v) {m i:Nat} {k:Int} (hm:m < 2 ^ v.length) (hk:v[i]? = some k) (hb:m.testBit i=true) :
  lab nd l s r v m i=labelOf s r (req r k) (part v m) (locF nd l s r v (m - 2 ^ i) (req r k).node):=by
 have hil:=(List.getElem?_eq_some_iff.1 hk).1
 have hl6:=hc.len
 have hm64:m < 64:=Nat.lt_of_lt_of_le hm (Nat.pow_le_pow_right (by omega) hl6)
 obtain ⟨hre,hrb⟩:=bit_rest hm64 (by omega) hb
 have hpw:=Nat.two_pow_pos i
 unfold lab
 rw [rowOf_at hk,Option.getD_some,if_pos hb,table_at (by omega),Option.getD_some,label,hre,locF_arrives hc]
theorem lab_no {m i:Nat} (hb:m.testBit i=false):lab nd l s r v m i=-1:=by
 unfold lab
 cases h:v[i]? with
 | none =>
  have:v.length≤i:=by simpa using h
  rw [List.getElem?_eq_none (by rw [rowOf_len];exact this)]
  rfl
 | some k=>rw [rowOf_at h,hb];rfl
theorem rowLabs_zero (row:List Int):∀ i,rowLabs 0 row i=[]
 | 0=>rfl
 | i + 1=>by rw [rowLabs,rowLabs_zero row i,Nat.zero_testBit];rfl
theorem nlab_zero:nlab nd l s r v 1 0=0:=by
 unfold nlab
 rw [tabLabs,rowLabs_zero]
 rfl
theorem nlab_skip {m i:Nat} (h:m.testBit i=false):nlab nd l s r v m (i + 1)=nlab nd l s r v m i:=by
 unfold nlab
 rw [rowLabs,h]
 simp
theorem nlab_next {m i:Nat} (h:m.testBit i=true):nlab nd l s r v m (i + 1)=nlab nd l s r v m i + 1:=by
 unfold nlab
 rw [rowLabs,h]
 simp
 omega
theorem nlab_row (m:Nat):nlab nd l s r v m v.length=nlab nd l s r v (m + 1) 0:=by
 unfold nlab
 rw [tabLabs,List.length_append]
 rfl
theorem nlab_end (h:ok31 nd l s r v=true):nlab nd l s r v (2 ^ v.length) 0=(labs nd l s r v).length:=by
 unfold nlab labs
 rw [if_pos h]
 rfl
theorem rowLabs_pre {m:Nat} {row:List Int} {i:Nat}:∀ {j:Nat},i≤j→∃ x,rowLabs m row j=rowLabs m row i ++ x
 | 0,h=>⟨[],by rw [show i=0 by omega];simp⟩
 | j + 1,h=>by
  by_cases e:i=j + 1
  ·exact ⟨[],by rw [e];simp⟩
  ·obtain ⟨x,hx⟩:=rowLabs_pre (m:=m) (row:=row) (i:=i) (j:=j) (by omega)
   exact ⟨_,by rw [rowLabs,hx,List.append_assoc]⟩
theorem tabLabs_pre {n:Nat} {t:List (List Int)} {i:Nat}:∀ {j:Nat},i≤j→∃ x,tabLabs n t j=tabLabs n t i ++ x
 | 0,h=>⟨[],by rw [show i=0 by omega];simp⟩
 | j + 1,h=>by
  by_cases e:i=j + 1
  ·exact ⟨[],by rw [e];simp⟩
  ·obtain ⟨x,hx⟩:=tabLabs_pre (n:=n) (t:=t) (i:=i) (j:=j) (by omega)
   exact ⟨_,by rw [tabLabs,hx,List.append_assoc]⟩
theorem labs_nth (h:ok31 nd l s r v=true) {m i:Nat} (hm:m < 2 ^ v.length) (hi:i < v.length) (hb:m.testBit i=true):(labs nd l s r v)[nlab nd l s r v m i]? = some ⟨m,i,lab nd l s r v m i⟩:=by
 obtain ⟨x,hx⟩:=tabLabs_pre (n:=v.length) (t:=table nd l s r v (2 ^ v.length)) (i:=m + 1) (j:=2 ^ v.length) hm
 obtain ⟨y,hy⟩:=rowLabs_pre (m:=m) (row:=((table nd l s r v (2 ^ v.length))[m]?).getD []) (i:=i + 1) (j:=v.length) hi
 unfold labs
 rw [if_pos h,hx,tabLabs,hy]
 unfold nlab
 rw [rowLabs,hb,if_pos rfl,List.append_assoc,List.getElem?_append_right (by omega),Nat.add_sub_cancel_left,List.append_assoc,List.append_assoc,List.getElem?_append_right (Nat.le_refl _),Nat.sub_self,table_at hm]
 rfl
end
end K
namespace K
def lessV (a b:Int):Int:=if a < 0∨(0≤b∧b < a) then b else a
def refLabel (s:S) (r:List Q) (q:Q) (all:List Int) (f:Int):Int :=
 if s.day < q.frm∨q.by_ < s.day∨T.fits s r all=false then -1
 else if f < 0∨s.end_ < f then -1
 else if (H.fit q.l f q.service).2=false∨s.end_ < (H.fit q.l f q.service).1 + q.service then -1
 else (H.fit q.l f q.service).1 + q.service
theorem refLabel_eq (s:S) (r:List Q) (q:Q) (all:List Int) (f:Int):refLabel s r q all f=labelOf s r q all f:=by
 rw [labelOf_may]
 unfold refLabel may
 cases h1:T.fits s r all <;> cases h2:(H.fit q.l f q.service).2 <;> simp <;> (repeat' split) <;> first | rfl | omega
section
variable {nd : Int} {l : List Ro} {s : S} {r : List Q} {v : List Int}
theorem lab_zero (i:Nat):lab nd l s r v 0 i=-1:=lab_no (Nat.zero_testBit i)
theorem locGo_zero (tn:Int):∀ i,locGo nd l s r v 0 tn i=-1
 | 0=>rfl
 | i + 1=>by rw [locGo,locGo_zero tn i,lab_zero,noted_no2 rfl]
theorem locF_zero (tn:Int):locF nd l s r v 0 tn=if way nd l s.depot (T.weight s r (part v 0)) tn < 0 then -1 else if s.start=-1 then -1 else s.start + way nd l s.depot (T.weight s r (part v 0)) tn:=by
 have hw:=way_bd nd l s.depot (T.weight s r (part v 0)) tn
 unfold locF
 rw [locGo_zero,if_pos rfl]
 unfold noted
 by_cases h1:way nd l s.depot (T.weight s r (part v 0)) tn < 0
 ·rw [if_pos h1,if_neg (by omega)]
 ·rw [if_neg h1]
  by_cases h2:s.start=-1
  ·rw [if_pos h2,if_neg (by omega)]
  ·rw [if_neg h2,if_pos ⟨by omega,h2,.inl rfl⟩]
theorem locF_pos {rest:Nat} (h:rest ≠ 0) (tn:Int):locF nd l s r v rest tn=locGo nd l s r v rest tn v.length:=by
 unfold locF
 rw [if_neg h,noted_no2 rfl]
theorem locGo_skip {rest i:Nat} {tn:Int} (h:lab nd l s r v rest i=-1):locGo nd l s r v rest tn (i + 1)=locGo nd l s r v rest tn i:=by rw [locGo,noted_no2 h]
theorem locGo_none {rest i:Nat} {tn k:Int} (hk:v[i]? = some k) (h:way nd l (req r k).node (T.weight s r (part v rest)) tn < 0):locGo nd l s r v rest tn (i + 1)=locGo nd l s r v rest tn i:=by
 have hw:=way_bd nd l (req r k).node (T.weight s r (part v rest)) tn
 rw [locGo,hk,Option.getD_some,noted_no1 (by omega)]
theorem locGo_less (hc:Case31 nd l s r v) {rest i:Nat} {tn k:Int} (hk:v[i]? = some k) (h1:0≤lab nd l s r v rest i) (h2:0≤way nd l (req r k).node (T.weight s r (part v rest)) tn) :
  locGo nd l s r v rest tn (i + 1)=lessV (locGo nd l s r v rest tn i) (lab nd l s r v rest i + way nd l (req r k).node (T.weight s r (part v rest)) tn):=by
 have hb:=locGo_bd hc rest tn i
 rw [locGo,hk,Option.getD_some]
 unfold noted lessV
 by_cases h:locGo nd l s r v rest tn i=-1∨lab nd l s r v rest i + way nd l (req r k).node (T.weight s r (part v rest)) tn < locGo nd l s r v rest tn i
 ·rw [if_pos ⟨by omega,by omega,h⟩,if_pos (by omega)]
 ·rw [if_neg (fun h9=>h h9.2.2),if_neg (by omega)]
end
end K
set_option maxHeartbeats 4000000 in
theorem less106_any (a b:Int) (w:World):Calls Tryz.prog 206 #[.int .i64 a,.int .i64 b] w fun e w'=>e=.returned (.int .i64 (K.lessV a b))∧w=w':=by
 by_cases h1:a < 0
 ·have c1:decide (a < 0)=true:=decide_eq_true h1
  have HX:=Lib.hid (show K.lessV a b=b by unfold K.lessV;rw [if_pos (.inl h1)])
  go_enter Tryz.func206,Tryz.ntmps206
  go_wp2_with fail
  go_ret
  exact ⟨by rw [HX.out];rfl,rfl⟩
 have c1:decide (a < 0)=false:=decide_eq_false h1
 by_cases h2:0≤b
 ·have c2:decide (0≤b)=true:=decide_eq_true h2
  by_cases h3:b < a
  ·have c3:decide (b < a)=true:=decide_eq_true h3
   have HX:=Lib.hid (show K.lessV a b=b by unfold K.lessV;rw [if_pos (.inr ⟨h2,h3⟩)])
   go_enter Tryz.func206,Tryz.ntmps206
   go_wp2_with fail
   go_ret
   exact ⟨by rw [HX.out];rfl,rfl⟩
  ·have c3:decide (b < a)=false:=decide_eq_false h3
   have HX:=Lib.hid (show K.lessV a b=a by unfold K.lessV;rw [if_neg (by omega)])
   go_enter Tryz.func206,Tryz.ntmps206
   go_wp2_with fail
   go_ret
   exact ⟨by rw [HX.out];rfl,rfl⟩
 ·have c2:decide (0≤b)=false:=decide_eq_false h2
  have HX:=Lib.hid (show K.lessV a b=a by unfold K.lessV;rw [if_neg (by omega)])
  go_enter Tryz.func206,Tryz.ntmps206
  go_wp2_with fail
  go_ret
  exact ⟨by rw [HX.out];rfl,rfl⟩
def readInts (w:World):Value→List Int
 | .slice (some ad) n _=>(List.range n).map fun j=>match w.cell? (ad.add j) with | some (.int _ x)=>x | _=>0
 | _=>[]
theorem readInts_ints {w:World} {A:Option Addr} {n c:Nat} {l:List Int} (h:Ints w A n l):readInts w (.slice A n c)=l:=by
 cases A with
 | none =>
  have h0:n=0:=by
   cases n with
   | zero=>rfl
   | succ n=>obtain ⟨ad,e,_⟩:=h.2.2 (by omega);cases e
  have:=h.1
  rw [h0] at this
  rw [List.length_eq_zero_iff.1 this.symm]
  rfl
 | some ad =>
  apply List.ext_getElem?
  intro k
  unfold readInts
  rw [List.getElem?_map]
  by_cases hk:k < n
  ·obtain ⟨ad',x,e,hx,hc⟩:=h.at_ hk
   injection e with e
   subst e
   rw [List.getElem?_range hk,hx,Option.map_some,hc]
  ·rw [List.getElem?_eq_none (by simpa using hk),List.getElem?_eq_none (by rw [←h.1];omega)]
   rfl
def OI (w:World) (ad:Addr) (n c:Nat) (l:List Int):Prop :=
 n=l.length∧n≤c∧∃ g cur,ad=⟨g,0,none⟩∧w.heap[g]? = some (.cells cur 3 (0,0))∧cur.toList.take n=intCells l
theorem OI.ints {w:World} {ad:Addr} {n c:Nat} {l:List Int} (h:OI w ad n c l):Ints w (some ad) n l:=by
 obtain ⟨h1,h2,g,cur,rfl,h3,h4⟩:=h
 refine ⟨h1,by simp [intCells,h1],fun _=>⟨_,rfl,fun j u hu=>?_⟩⟩
 rw [add_zero_block,cell_of_row w g j cur 3 (0,0) h3]
 rw [←h4,List.getElem?_take] at hu
 split at hu
 ·simpa using hu
 ·cases hu
theorem OI.cell {w:World} {ad:Addr} {n c k:Nat} {l:List Int} {x:Int} (h:OI w ad n c l) (hk:l[k]? = some x):w.cell? (ad.add k)=some (.int .i64 x):=by
 obtain ⟨ad',y,e,hy,hc⟩:=h.ints.at_ (k:=k) (by rw [h.1];exact (List.getElem?_eq_some_iff.1 hk).1)
 injection e with e
 subst e
 rw [hk] at hy
 injection hy with hy
 rw [hy];exact hc
theorem OI.free {w:World} {ad:Addr} {n c:Nat} {l:List Int} (h:OI w ad n c l) (k:Nat):w.frozen? (ad.add k)=false:=by
 obtain ⟨h1,h2,g,cur,rfl,h3,h4⟩:=h
 rw [add_zero_block]
 exact blk_free h3 k
theorem OI.set {w:World} {ad:Addr} {n c:Nat} {l:List Int} (h:OI w ad n c l) (k:Nat) (x:Int):OI (w.setCell (ad.add k) (.int .i64 x)) ad n c (l.set k x):=by
 obtain ⟨h1,h2,g,cur,rfl,h3,h4⟩:=h
 refine ⟨by rw [List.length_set];exact h1,h2,g,_,rfl,by rw [add_zero_block];exact blk_set h3 k _,?_⟩
 rw [Array.toList_setIfInBounds,List.take_set,h4]
 simp [intCells,List.map_set]
theorem OI.below {w w':World} {ad:Addr} {n c:Nat} {l:List Int} (h:OI w ad n c l) (hb:Below w.heap.size w w'):OI w' ad n c l:=by
 obtain ⟨h1,h2,g,cur,e,h3,h4⟩:=h
 exact ⟨h1,h2,g,cur,e,blk_below hb h3,h4⟩
theorem OI.grown {w w':World} {r:Option Nat} {ad:Addr} {n c:Nat} {l:List Int} (h:OI w ad n c l) (hg:w.grownBy w' r) (hne:some ad.block ≠ r):OI w' ad n c l:=by
 obtain ⟨h1,h2,g,cur,rfl,h3,h4⟩:=h
 exact ⟨h1,h2,g,cur,rfl,(hg.block g (Array.getElem?_eq_some_iff.1 h3).1 hne).trans h3,h4⟩
end Go.Proofs.YtippdjmpkafifaaGreat
