import Derived.Test.YtippdjmpkafifaaGreatCP17
import Derived.Test.YtippdjmpkafifaaGreatCP16
import Derived.Laws.ResultCell
import Derived.Test.YtippdjmpkafifaaGreatCP15
import Derived.Test.YtippdjmpkafifaaGreatCP12
namespace Go.Proofs.YtippdjmpkafifaaGreat
open Go.RowKit
def BestIn (w:World) (g:Nat) (b:Option K.Tr):Prop :=
 ∃ A n c A' n' c',TrBlk w g (.slice A n c) (.slice A' n' c') ((b.getD K.Tr.zero).end_)∧Ints w A n (b.getD K.Tr.zero).stops∧Ints w A' n' (b.getD K.Tr.zero).times∧(∀ ad,A=some ad→g < ad.block)∧(∀ ad,A'=some ad→g < ad.block)
theorem BestIn.below {w w':World} {g:Nat} {b:Option K.Tr} (h:BestIn w g b) (hb:Below w.heap.size w w'):BestIn w' g b:=by
 obtain ⟨A,n,c,A',n',c',h1,h2,h3,h4,h5⟩:=h
 exact ⟨A,n,c,A',n',c',h1.below hb (lt_of_block h1),h2.below hb,h3.below hb,h4,h5⟩
theorem Ints.set0 {w:World} {A:Option Addr} {n:Nat} {l:List Int} (h:Ints w A n l) {g i:Nat} (u:Value) (hg:0 < n→∀ ad,A=some ad→ad.block ≠ g):Ints (w.setCell ⟨g,i,none⟩ u) A n l:=by
 by_cases h0:0 < n
 ·exact h.set u (hg h0)
 ·exact ⟨h.1,h.2.1,fun h1=>absurd h1 h0⟩
def RetBest31 (w w':World) (y:K.Tr × Int) (e:Ending):Prop :=
 (∃ A n c A' n' c',e=.returned (.tuple #[.agg #[.int .i64 0,.slice A n c,.slice A' n' c',.int .i64 y.1.end_],.int .i64 y.2])∧Ints w' A n y.1.stops∧Ints w' A' n' y.1.times∧(∀ ad,A=some ad→w.heap.size≤ad.block)∧∀ ad,A'=some ad→w.heap.size≤ad.block)∧Below w.heap.size w w'
theorem retBest31_zero {w w':World} {er:Int} {y:K.Tr × Int} (h:y=(K.Tr.zero,er)) (hb:Below w.heap.size w w'):RetBest31 w w' y (.returned (.tuple #[.agg #[.int .i64 0,.slice none 0 0,.slice none 0 0,.int .i64 0],.int .i64 er])):=by
 subst h
 exact ⟨⟨none,0,0,none,0,0,rfl,ints_nil _,ints_nil _,fun ad e=>(nomatch e),fun ad e=>(nomatch e)⟩,hb⟩
set_option maxRecDepth 100000 in
set_option maxHeartbeats 16000000 in
theorem best31_any (x:C) (V:Option Addr) (vn vc:Nat) (v:List Int) (w:World) (hx:At w x) (hV:Ints w V vn v) (hvn:vn≤1000000000) (h4:K.ok31 x.nd x.l x.s x.r v=true→v.length≤4) :
  Calls Tryz.prog 81 #[.agg #[.int .i64 x.nd,.slice x.A x.n x.c],.agg #[.int .i64 x.s.day,.int .i64 x.s.depot,.int .i64 x.s.start,.int .i64 x.s.end_,.int .i64 x.s.tare,.slice x.s.A x.s.n x.s.c],.slice x.B x.m x.d,.slice V vn vc] w fun e w'=>RetBest31 w w' (K.bestOut x.nd x.l x.s x.r v) e:=by
 obtain ⟨w0,hw0⟩:∃ w0:World,w0=((w.alloc (.cells #[.int .i64 x.nd,.slice x.A x.n x.c] 24)).alloc (.cells #[.int .i64 x.s.day,.int .i64 x.s.depot,.int .i64 x.s.start,.int .i64 x.s.end_,.int .i64 x.s.tare,.slice x.s.A x.s.n x.s.c] 63)).alloc (.cells #[.int .i64 0,.slice none 0 0,.slice none 0 0,.int .i64 0] 80):=⟨_,rfl⟩
 have b0:Below w.heap.size w w0:=by rw [hw0];exact bel (bel ((Below.refl _ _).alloc (Nat.le_refl _) _) ((Below.refl _ _).alloc (Nat.le_refl _) _)) ((Below.refl _ _).alloc (Nat.le_refl _) _)
 have z1:=World.size_alloc w (.cells #[.int .i64 x.nd,.slice x.A x.n x.c] 24)
 have z2:=World.size_alloc (w.alloc (.cells #[.int .i64 x.nd,.slice x.A x.n x.c] 24)) (.cells #[.int .i64 x.s.day,.int .i64 x.s.depot,.int .i64 x.s.start,.int .i64 x.s.end_,.int .i64 x.s.tare,.slice x.s.A x.s.n x.s.c] 63)
 have hR:TrBlk w0 (w.heap.size + 1 + 1) (.slice none 0 0) (.slice none 0 0) 0:=by rw [hw0];exact heap_alloc_at _ _ _ (by rw [z2,z1])
 have hS:Shf w0 (w.heap.size + 1) x.s:=by
  have h:=(Shf.new (w.alloc (.cells #[.int .i64 x.nd,.slice x.A x.n x.c] 24)) x.s).below ((Below.refl _ _).alloc (Nat.le_refl _) (.cells #[.int .i64 0,.slice none 0 0,.slice none 0 0,.int .i64 0] 80))
  rw [z1] at h
  rw [hw0];exact h
 have hN:Net w0 w.heap.size x.nd x.A x.n x.c:=by
  rw [hw0]
  exact (Net.new w x.nd x.A x.n x.c).below (bel ((Below.refl _ _).alloc (Nat.le_refl _) _) ((Below.refl _ _).alloc (Nat.le_refl _) _))
 have p0:=hN.c0
 have p1:=hN.c1
 obtain ⟨s0,s1,s2,s3,s4,s5⟩:=hS.cells
 rw [hw0] at p0 p1 s0 s1 s2 s3 s4 s5
 go_enter Tryz.func81,Tryz.ntmps81
 go_wp2_with fail
 rw [←hw0]
 refine (right31_any x V vn vc v _ (hx.below b0) (hV.below b0) hvn).mono ?_
 obtain ⟨okb,hokb⟩:∃ okb,okb=K.ok31 x.nd x.l x.s x.r v:=⟨_,rfl⟩
 rw [←hokb]
 rintro e w1 ⟨rfl,b1⟩
 have hb:=bel b0 b1
 have hsz:=b0.size
 have hR0:=lt_of_block hR
 have hR1:=hR.below b1 hR0
 have hS1:=hS.below b1
 have hN1:=hN.below b1
 have hsz1:=b1.size
 clear p0 p1 s0 s1 s2 s3 s4 s5 hw0 z1 z2 hR hS hN b0 b1
 cases okb
 ·have HX:=Lib.hid (K.bestOut_no hokb.symm)
  clear hokb h4
  obtain ⟨r0,r1,r2,r3⟩:=hR1.cells
  have f0:=hR1.free 0
  have f1:=hR1.free 1
  have f2:=hR1.free 2
  have f3:=hR1.free 3
  go_wp2_with fail
  refine bodyPost_ret_by (v:=.tuple #[.agg #[.int .i64 0,.slice none 0 0,.slice none 0 0,.int .i64 0],.int .i64 1]) ?_ rfl ?_
  ·obtain ⟨z0,z1,z2,z3⟩:=(hR1.set (.slice none 0 0) (.slice none 0 0) 0).cells
   rw [results_cell_tmp rfl]
   simp [go_sem,z0,z1,z2,z3]
  ·exact retBest31_zero HX.out (below_set4 hb (by omega) _ _ _ _)
 have hok:=hokb.symm
 have hv4:=h4 hok
 have HVN:=Lib.hid hV.1
 have hv4n:vn≤4:=by rw [hV.1];exact hv4
 have HPB:=Lib.hid (K.pick_best (nd:=x.nd) (l:=x.l) (s:=x.s) (r:=x.r) hok hv4)
 have HFW:=Lib.hid (K.orders_few hok hv4)
 have HOK:=Lib.hid hok
 clear hok hokb h4 hv4
 obtain ⟨i0,hi,hz0,hz1,hz2⟩:=info_parts Tryz.info3
 obtain ⟨w2,hw2⟩:∃ w2:World,w2=w1.alloc (.cells #[.int .i64 0,.slice none 0 0,.slice none 0 0,.int .i64 0] 80):=⟨_,rfl⟩
 obtain ⟨g,hg⟩:∃ g,g=w1.heap.size:=⟨_,rfl⟩
 have b12:Below w1.heap.size w1 w2:=by rw [hw2];exact (Below.refl _ _).alloc (Nat.le_refl _) _
 have hB2:BestIn w2 g none:=⟨none,0,0,none,0,0,by rw [hw2,hg];exact heap_alloc_new _ _,ints_nil _,ints_nil _,fun _ e=>(nomatch e),fun _ e=>(nomatch e)⟩
 have hz2':w2.heap.size=w1.heap.size + 1:=by rw [hw2];exact World.size_alloc _ _
 have hlit:(w2.alloc (.cells #[] 3)).ownsRow w2.heap.size 3 1 (.slice (some ⟨w2.heap.size,0,none⟩) 0 0) 0 []:=own_lit (heap_alloc_new w2 (.cells #[] 3)) (Nat.le_refl _)
 have ba:Below w2.heap.size w2 (w2.alloc (.cells #[] 3)):=(Below.refl _ _).alloc (Nat.le_refl _) _
 have hb2:=bel hb b12
 have hN2:=hN1.below b12
 have hS2:=hS1.below b12
 have hR2:=hR1.below b12 (lt_of_block hR1)
 have hRg:w.heap.size + 1 + 1 < g:=by rw [hg];exact lt_of_block hR1
 have hgw:w.heap.size≤g:=by omega
 go_upto_region 5 with fail
 rw [←hw2,←hg]
 have HZ2:=Lib.hid hz2'
 have HG:=Lib.hid hg
 clear hw2 b12 hN1 hS1 hR1 hb hz2' hg
 go_wp2_with (at_builtin;refine wp_append_rd rfl (.tmp 25) (.tmp 26) 48 rfl w2.heap.size 3 i0 (.int .i64 0) 1 8 Tryz.underlying48 hi hz0 hz1 hz2 rfl (by decide) (.slice (some ⟨w2.heap.size,0,none⟩) 0 0) 0 [] rfl hlit V vn vc (intCells v) rfl (hV.below (bel hb2 ba)).2 (intCells_one v) (by simp only [maxLen];omega) (by omega) (by first | (simp;done) | (simp;omega)) ?_;intro v' w3 hown3 hgrow3 hat3;rw [Nat.zero_add,List.nil_append] at hown3;obtain ⟨A3,c3,rfl,hI3,hc3,hO3⟩:=own_oi hown3 HVN.out;have b23:Below w2.heap.size w2 w3:=below_own2 ba hgrow3 (lit_block (Nat.le_refl _));clear hown3 hgrow3 hat3 hlit ba)
 have HOg3:=Lib.hid (show 0 < vn→∀ ad,A3=some ad→g < ad.block from fun h0 ad e=>by obtain ⟨ad',e',-,hb'⟩:=hO3 h0;rw [e'] at e;injection e with e;have:=HZ2.out;have:=HG.out;rw [←e];omega)
 clear hO3
 have hN3:=hN2.below b23
 have hS3:=hS2.below b23
 have hR3:=hR2.below b23 (by rw [HZ2.out];omega)
 have hB3:=hB2.below b23
 have hb3:=bel hb2 b23
 have hg3:g < w3.heap.size:=by have:=b23.size;have:=HZ2.out;have:=HG.out;omega
 clear hN2 hS2 hR2 hB2 hb2 b23 hi hz0 hz1 hz2 hsz hsz1
 go_loopw [11,12,13] (fun v11 v12 v13 wr=>∃ (b:Option K.Tr) (A:Option Addr) (c:Nat) (o:List Int) (mr:Bool),v11=.bool b.isSome∧v13=.bool mr∧(∃ n,v12=.slice A n c∧(mr=true→Ints wr A n o∧n≤c∧n≤4∧(0 < n→∀ ad,A=some ad→g < ad.block)))∧Hid (mr=true→K.pick x.nd x.l x.s x.r (K.orders 25 v) none=K.pick x.nd x.l x.s x.r (K.orders 25 o) b∧(K.orders 25 o).length≤24)∧Hid (mr=false→K.pick x.nd x.l x.s x.r (K.orders 25 v) none=b)∧BestIn wr g b∧w3.grownBy wr (some g)) (fun _ v12 v13 wr=>leftOf wr v12 v13)
 case atStart=>exact ⟨none,A3,c3,v,true,rfl,rfl,⟨vn,rfl,fun _=>⟨hI3,hc3,hv4n,HOg3.out⟩⟩,fun _=>⟨rfl,HFW.out⟩,fun h=>(nomatch h),hB3,grow_refl _ _⟩
 case round =>
  clear hB3
  obtain ⟨b,A,c,o,mr,rfl,rfl,⟨n,rfl,hIo⟩,hpk,hend,hBr,hgr⟩:=hrel
  have hbr:Below w.heap.size w wr:=below_own2 hb3 hgr (fun g' e=>by injection e with e;omega)
  have hNr:Net wr w.heap.size x.nd x.A x.n x.c:=grow_blk hgr hN3 (fun e=>by injection e with e;omega)
  have hSr:Shf wr (w.heap.size + 1) x.s:=grow_blk hgr hS3 (fun e=>by injection e with e;omega)
  have hRr:TrBlk wr (w.heap.size + 1 + 1) (.slice none 0 0) (.slice none 0 0) 0:=grow_blk hgr hR3 (fun e=>by injection e with e;omega)
  have hgr1:g < wr.heap.size:=Nat.lt_of_lt_of_le hg3 hgr.size
  cases mr
  ·have HE:=Lib.hid (hend.out rfl)
   clear hIo hpk hend hNr hSr
   obtain ⟨A0,n0,c0,A1,n1,c1,hT,hI,hJ,hA,hA'⟩:=hBr
   obtain ⟨r0,r1,r2,r3⟩:=hRr.cells
   have f0:=hRr.free 0
   have f1:=hRr.free 1
   have f2:=hRr.free 2
   have f3:=hRr.free 3
   cases b with
   | none =>
    have HX:=Lib.hid (K.bestOut_none HOK.out (HPB.out.symm.trans HE.out))
    go_wp2_with fail
    refine bodyPost_ret_by (v:=.tuple #[.agg #[.int .i64 0,.slice none 0 0,.slice none 0 0,.int .i64 0],.int .i64 4]) ?_ rfl ?_
    ·obtain ⟨z0,z1,z2,z3⟩:=(hRr.set (.slice none 0 0) (.slice none 0 0) 0).cells
     rw [results_cell_tmp rfl]
     simp [go_sem,z0,z1,z2,z3]
    ·exact retBest31_zero HX.out (below_set4 hbr (by omega) _ _ _ _)
   | some bt =>
    have HX:=Lib.hid (K.bestOut_some HOK.out (HPB.out.symm.trans HE.out))
    have hT:TrBlk wr g (.slice A0 n0 c0) (.slice A1 n1 c1) bt.end_:=hT
    have hI:Ints wr A0 n0 bt.stops:=hI
    have hJ:Ints wr A1 n1 bt.times:=hJ
    obtain ⟨t0,t1,t2,t3⟩:=hT.cells
    go_wp2_with fail
    refine bodyPost_ret_by (v:=.tuple #[.agg #[.int .i64 0,.slice A0 n0 c0,.slice A1 n1 c1,.int .i64 bt.end_],.int .i64 0]) ?_ rfl ?_
    ·obtain ⟨z0,z1,z2,z3⟩:=(hRr.set (.slice A0 n0 c0) (.slice A1 n1 c1) bt.end_).cells
     rw [results_cell_tmp rfl]
     simp [go_sem,z0,z1,z2,z3]
    ·rw [HX.out]
     have hne1:∀ ad,A0=some ad→ad.block ≠ w.heap.size + 1 + 1:=fun ad e=>by have:=hA ad e;omega
     have hne2:∀ ad,A1=some ad→ad.block ≠ w.heap.size + 1 + 1:=fun ad e=>by have:=hA' ad e;omega
     exact ⟨⟨A0,n0,c0,A1,n1,c1,rfl,(((hI.set _ hne1).set _ hne1).set _ hne1).set _ hne1,(((hJ.set _ hne2).set _ hne2).set _ hne2).set _ hne2,fun ad e=>(by have:=hA ad e;omega),fun ad e=>(by have:=hA' ad e;omega)⟩,below_set4 hbr (by omega) _ _ _ _⟩
  ·obtain ⟨hI,hnc,hn4,hOg⟩:=hIo rfl
   have HOg:=Lib.hid hOg
   clear hOg
   obtain ⟨hpk,hlen⟩:=hpk.out rfl
   have HPK:=Lib.hid hpk
   have HIW:=Lib.hid hI
   have HLEN:=Lib.hid hlen
   clear hend hIo hpk hlen
   have p0:=hNr.c0
   have p1:=hNr.c1
   obtain ⟨s0,s1,s2,s3,s4,s5⟩:=hSr.cells
   go_wp2_with fail
   clear p0 p1 s0 s1 s2 s3 s4 s5 hRr hNr hSr
   refine (rrun_any x A n c o wr (hx.below hbr) hI hnc (by omega)).mono ?_
   obtain ⟨R,hR⟩:∃ R,R=K.run x.nd x.l x.s x.r o:=⟨_,rfl⟩
   rw [←hR]
   have HR:=Lib.hid hR
   clear hR
   rintro e w4 ⟨⟨A0,n0,c0,A1,n1,c1,rfl,hI0,hI1,hA0,hA1⟩,b4⟩
   obtain ⟨w5,hw5⟩:∃ w5:World,w5=w4.alloc (.cells #[.int .i64 0,.slice A0 n0 c0,.slice A1 n1 c1,.int .i64 R.tour.end_] 80):=⟨_,rfl⟩
   obtain ⟨G,hG⟩:∃ G,G=w4.heap.size:=⟨_,rfl⟩
   have b5:Below wr.heap.size wr w5:=by rw [hw5];exact bel b4 ((Below.refl _ _).alloc (Nat.le_refl _) _)
   have hT5:TrBlk w5 G (.slice A0 n0 c0) (.slice A1 n1 c1) R.tour.end_:=by rw [hw5,hG];exact heap_alloc_new _ _
   have h45:Below w4.heap.size w4 w5:=by rw [hw5];exact (Below.refl _ _).alloc (Nat.le_refl _) _
   have hI05:=hI0.below h45
   have hI15:=hI1.below h45
   have hB5:=hBr.below b5
   have hgr5:=grow_below hgr b5
   have hIo5:=hI.below b5
   have hb5:=bel hbr b5
   have hG1:g < G:=by have:=b4.size;omega
   have hA0g:∀ ad,A0=some ad→g < ad.block:=fun ad e=>by have:=hA0 ad e;omega
   have hA1g:∀ ad,A1=some ad→g < ad.block:=fun ad e=>by have:=hA1 ad e;omega
   clear hI0 hI1 hA0 hA1 hBr hgr hI hbr b4 b5 h45
   go_upto_region 9 with fail
   rw [←hw5,←hG]
   clear hw5 hG
   by_cases he:R.e=0
   ·have heB:(R.e == 0)=true:=by rw [he];rfl
    have heD:decide (R.e=0)=true:=by simp [he]
    cases b with
    | none =>
     have HST:=Lib.hid (fun os=>K.pick_yes (os:=os) (b:=none) (HR.out ▸ he) (HR.out ▸ (rfl:K.better none R.tour.end_=true)))
     rw [←HR.out] at HST
     have b56:Below w5.heap.size w5 w5:=Below.refl _ _
     have hT6:=hT5.below b56 (lt_of_block hT5)
     obtain ⟨A9,n9,c9,A8,n8,c8,hG6,-⟩:=hB5.below b56
     have hgr6:=grow_below hgr5 b56
     have hI06:=hI05.below b56
     have hI16:=hI15.below b56
     have hIo6:=hIo5.below b56
     clear b56 hB5 hgr5 hIo5 hT5 hI05 hI15
     obtain ⟨t0,t1,t2,t3⟩:=hT6.cells
     obtain ⟨d0,d1,d2,d3⟩:=hG6.cells
     have f0:=hG6.free 0
     have f1:=hG6.free 1
     have f2:=hG6.free 2
     have f3:=hG6.free 3
     obtain ⟨w7,hw7⟩:∃ w7:World,w7=(((w5.setCell ⟨g,0,none⟩ (.int .i64 0)).setCell ⟨g,1,none⟩ (.slice A0 n0 c0)).setCell ⟨g,2,none⟩ (.slice A1 n1 c1)).setCell ⟨g,3,none⟩ (.int .i64 R.tour.end_):=⟨_,rfl⟩
     have hne1:∀ ad,A0=some ad→ad.block ≠ g:=fun ad e=>by have:=hA0g ad e;omega
     have hne2:∀ ad,A1=some ad→ad.block ≠ g:=fun ad e=>by have:=hA1g ad e;omega
     have hB7:BestIn w7 g (some R.tour):=by
      rw [hw7]
      exact ⟨A0,n0,c0,A1,n1,c1,hG6.set _ _ _,(((hI06.set _ hne1).set _ hne1).set _ hne1).set _ hne1,(((hI16.set _ hne2).set _ hne2).set _ hne2).set _ hne2,hA0g,hA1g⟩
     have hgr7:w3.grownBy w7 (some g):=by rw [hw7];exact grow_set (grow_set (grow_set (grow_set hgr6 _ _ _ rfl) _ _ _ rfl) _ _ _ rfl) _ _ _ rfl
     have hIo7:Ints w7 A n o:=by
      rw [hw7]
      have hne3:0 < n→∀ ad,A=some ad→ad.block ≠ g:=fun h0 ad e=>by have:=HOg.out h0 ad e;omega
      exact (((hIo6.set0 _ hne3).set0 _ hne3).set0 _ hne3).set0 _ hne3
     clear hI06 hI16 hne1 hne2 hG6 hgr6 hIo6
     go_upto_region 11 with fail
     rw [←hw7]
     clear hw7 d0 d1 d2 d3 t0 t1 t2 t3 f0 f1 f2 f3 hT6 heB heD
     go_wp2_with fail
     refine (next_any A n c o w7 hIo7 (by omega)).mono ?_
     obtain ⟨nx,hnx⟩:∃ nx,nx=K.nxt31 o:=⟨_,rfl⟩
     rw [←hnx]
     rintro e w8 ⟨hret,b7⟩
     have B7:=hB7.below b7
     have g7:=grow_below hgr7 b7
     rcases hret with ⟨h1,rfl⟩ | ⟨o',A',n',c',h1,hnc',rfl,hI',hA'⟩
     ·have HE:=Lib.hid (show K.pick x.nd x.l x.s x.r (K.orders 25 v) none=(some R.tour) by rw [HPK.out,K.orders_last (hnx.symm.trans h1),HST.out];rfl)
      clear hnx h1 hB7 hgr7
      go_wp2_with fail
      go_roundw
      case rel=>exact ⟨(some R.tour),none,0,[],false,rfl,rfl,⟨0,rfl,fun h=>(nomatch h)⟩,fun h=>(nomatch h),fun _=>HE.out,B7,g7⟩
      case measure=>rw [leftOf_no,leftOf_yes HIW.out];omega
     ·obtain ⟨k1,k2⟩:=K.orders_next (hnx.symm.trans h1) HLEN.out
      have HPN:=Lib.hid (show K.pick x.nd x.l x.s x.r (K.orders 25 v) none=K.pick x.nd x.l x.s x.r (K.orders 25 o') (some R.tour) by rw [HPK.out,k1,HST.out])
      have HGW:=Lib.hid (Nat.lt_of_lt_of_le hg3 hgr7.size)
      have HLN:=Lib.hid (show (K.orders 25 o').length≤24 by have:=HLEN.out;omega)
      have HLT:=Lib.hid k2
      have hn':n'≤4:=by have h2:=K.next_len (hnx.symm.trans h1);have h3:=hI'.1;have h4:=HIW.out.1;omega
      clear hnx h1 k1 k2 hB7 hgr7
      go_wp2_with fail
      go_roundw
      case rel=>exact ⟨(some R.tour),A',c',o',true,rfl,rfl,⟨n',rfl,fun _=>⟨hI',hnc',hn',fun _ ad e=>Nat.lt_of_lt_of_le HGW.out (hA' ad e)⟩⟩,fun _=>⟨HPN.out,HLN.out⟩,fun h=>(nomatch h),B7,g7⟩
      case measure=>rw [leftOf_yes hI',leftOf_yes HIW.out];have:=HLT.out;omega
    | some bt =>
     have hB5':=hB5
     obtain ⟨A6,n6,c6,A7,n7,c7,hG5,-⟩:=hB5'
     have hG5:TrBlk w5 g (.slice A6 n6 c6) (.slice A7 n7 c7) bt.end_:=hG5
     have q3:=hG5.cells.2.2.2
     have r3:=hT5.cells.2.2.2
     by_cases hlt:R.tour.end_ < bt.end_
     ·have hd:decide (R.tour.end_ < bt.end_)=true:=decide_eq_true hlt
      have HST:=Lib.hid (fun os=>K.pick_yes (os:=os) (b:=(some bt)) (HR.out ▸ he) (HR.out ▸ (decide_eq_true hlt:K.better (some bt) R.tour.end_=true)))
      rw [←HR.out] at HST
      have b56:Below w5.heap.size w5 w5:=Below.refl _ _
      have hT6:=hT5.below b56 (lt_of_block hT5)
      obtain ⟨A9,n9,c9,A8,n8,c8,hG6,-⟩:=hB5.below b56
      have hgr6:=grow_below hgr5 b56
      have hI06:=hI05.below b56
      have hI16:=hI15.below b56
      have hIo6:=hIo5.below b56
      clear b56 hB5 hgr5 hIo5 hT5 hI05 hI15
      obtain ⟨t0,t1,t2,t3⟩:=hT6.cells
      obtain ⟨d0,d1,d2,d3⟩:=hG6.cells
      have f0:=hG6.free 0
      have f1:=hG6.free 1
      have f2:=hG6.free 2
      have f3:=hG6.free 3
      obtain ⟨w7,hw7⟩:∃ w7:World,w7=(((w5.setCell ⟨g,0,none⟩ (.int .i64 0)).setCell ⟨g,1,none⟩ (.slice A0 n0 c0)).setCell ⟨g,2,none⟩ (.slice A1 n1 c1)).setCell ⟨g,3,none⟩ (.int .i64 R.tour.end_):=⟨_,rfl⟩
      have hne1:∀ ad,A0=some ad→ad.block ≠ g:=fun ad e=>by have:=hA0g ad e;omega
      have hne2:∀ ad,A1=some ad→ad.block ≠ g:=fun ad e=>by have:=hA1g ad e;omega
      have hB7:BestIn w7 g (some R.tour):=by
       rw [hw7]
       exact ⟨A0,n0,c0,A1,n1,c1,hG6.set _ _ _,(((hI06.set _ hne1).set _ hne1).set _ hne1).set _ hne1,(((hI16.set _ hne2).set _ hne2).set _ hne2).set _ hne2,hA0g,hA1g⟩
      have hgr7:w3.grownBy w7 (some g):=by rw [hw7];exact grow_set (grow_set (grow_set (grow_set hgr6 _ _ _ rfl) _ _ _ rfl) _ _ _ rfl) _ _ _ rfl
      have hIo7:Ints w7 A n o:=by
       rw [hw7]
       have hne3:0 < n→∀ ad,A=some ad→ad.block ≠ g:=fun h0 ad e=>by have:=HOg.out h0 ad e;omega
       exact (((hIo6.set0 _ hne3).set0 _ hne3).set0 _ hne3).set0 _ hne3
      clear hI06 hI16 hne1 hne2 hG6 hgr6 hIo6
      go_upto_region 11 with fail
      rw [←hw7]
      clear hw7 d0 d1 d2 d3 t0 t1 t2 t3 f0 f1 f2 f3 hT6 heB heD hd hG5 q3 r3
      go_wp2_with fail
      refine (next_any A n c o w7 hIo7 (by omega)).mono ?_
      obtain ⟨nx,hnx⟩:∃ nx,nx=K.nxt31 o:=⟨_,rfl⟩
      rw [←hnx]
      rintro e w8 ⟨hret,b7⟩
      have B7:=hB7.below b7
      have g7:=grow_below hgr7 b7
      rcases hret with ⟨h1,rfl⟩ | ⟨o',A',n',c',h1,hnc',rfl,hI',hA'⟩
      ·have HE:=Lib.hid (show K.pick x.nd x.l x.s x.r (K.orders 25 v) none=(some R.tour) by rw [HPK.out,K.orders_last (hnx.symm.trans h1),HST.out];rfl)
       clear hnx h1 hB7 hgr7
       go_wp2_with fail
       go_roundw
       case rel=>exact ⟨(some R.tour),none,0,[],false,rfl,rfl,⟨0,rfl,fun h=>(nomatch h)⟩,fun h=>(nomatch h),fun _=>HE.out,B7,g7⟩
       case measure=>rw [leftOf_no,leftOf_yes HIW.out];omega
      ·obtain ⟨k1,k2⟩:=K.orders_next (hnx.symm.trans h1) HLEN.out
       have HPN:=Lib.hid (show K.pick x.nd x.l x.s x.r (K.orders 25 v) none=K.pick x.nd x.l x.s x.r (K.orders 25 o') (some R.tour) by rw [HPK.out,k1,HST.out])
       have HGW:=Lib.hid (Nat.lt_of_lt_of_le hg3 hgr7.size)
       have HLN:=Lib.hid (show (K.orders 25 o').length≤24 by have:=HLEN.out;omega)
       have HLT:=Lib.hid k2
       have hn':n'≤4:=by have h2:=K.next_len (hnx.symm.trans h1);have h3:=hI'.1;have h4:=HIW.out.1;omega
       clear hnx h1 k1 k2 hB7 hgr7
       go_wp2_with fail
       go_roundw
       case rel=>exact ⟨(some R.tour),A',c',o',true,rfl,rfl,⟨n',rfl,fun _=>⟨hI',hnc',hn',fun _ ad e=>Nat.lt_of_lt_of_le HGW.out (hA' ad e)⟩⟩,fun _=>⟨HPN.out,HLN.out⟩,fun h=>(nomatch h),B7,g7⟩
       case measure=>rw [leftOf_yes hI',leftOf_yes HIW.out];have:=HLT.out;omega
     ·have hd:decide (R.tour.end_ < bt.end_)=false:=decide_eq_false hlt
      have HST:=Lib.hid (fun os=>K.pick_no (os:=os) (b:=(some bt)) (HR.out ▸ (fun h=>hlt (of_decide_eq_true h.2):¬ (R.e=0∧K.better (some bt) R.tour.end_=true))))
      go_wp2_with fail
      have b56:Below w5.heap.size w5 w5:=Below.refl _ _
      have hB6:=hB5.below b56
      have hgr6:=grow_below hgr5 b56
      have hIo6:=hIo5.below b56
      clear b56 hB5 hgr5 hIo5 hT5 hI05 hI15 heB heD hd hG5 q3 r3
      go_wp2_with fail
      refine (next_any A n c o w5 hIo6 (by omega)).mono ?_
      obtain ⟨nx,hnx⟩:∃ nx,nx=K.nxt31 o:=⟨_,rfl⟩
      rw [←hnx]
      rintro e w7 ⟨hret,b7⟩
      have B7:=hB6.below b7
      have g7:=grow_below hgr6 b7
      rcases hret with ⟨h1,rfl⟩ | ⟨o',A',n',c',h1,hnc',rfl,hI',hA'⟩
      ·have HE:=Lib.hid (show K.pick x.nd x.l x.s x.r (K.orders 25 v) none=(some bt) by rw [HPK.out,K.orders_last (hnx.symm.trans h1),HST.out];rfl)
       clear hnx h1 hB6 hgr6
       go_wp2_with fail
       go_roundw
       case rel=>exact ⟨(some bt),none,0,[],false,rfl,rfl,⟨0,rfl,fun h=>(nomatch h)⟩,fun h=>(nomatch h),fun _=>HE.out,B7,g7⟩
       case measure=>rw [leftOf_no,leftOf_yes HIW.out];omega
      ·obtain ⟨k1,k2⟩:=K.orders_next (hnx.symm.trans h1) HLEN.out
       have HPN:=Lib.hid (show K.pick x.nd x.l x.s x.r (K.orders 25 v) none=K.pick x.nd x.l x.s x.r (K.orders 25 o') (some bt) by rw [HPK.out,k1,HST.out])
       have HGW:=Lib.hid (Nat.lt_of_lt_of_le hg3 hgr6.size)
       have HLN:=Lib.hid (show (K.orders 25 o').length≤24 by have:=HLEN.out;omega)
       have HLT:=Lib.hid k2
       have hn':n'≤4:=by have h2:=K.next_len (hnx.symm.trans h1);have h3:=hI'.1;have h4:=HIW.out.1;omega
       clear hnx h1 k1 k2 hB6 hgr6
       go_wp2_with fail
       go_roundw
       case rel=>exact ⟨(some bt),A',c',o',true,rfl,rfl,⟨n',rfl,fun _=>⟨hI',hnc',hn',fun _ ad e=>Nat.lt_of_lt_of_le HGW.out (hA' ad e)⟩⟩,fun _=>⟨HPN.out,HLN.out⟩,fun h=>(nomatch h),B7,g7⟩
       case measure=>rw [leftOf_yes hI',leftOf_yes HIW.out];have:=HLT.out;omega
   ·have heB:(R.e == 0)=false:=by simp [he]
    have heD:decide (R.e=0)=false:=by simp [he]
    have HST:=Lib.hid (fun os=>K.pick_no (os:=os) (b:=b) (HR.out ▸ (fun h=>he h.1:¬ (R.e=0∧K.better b R.tour.end_=true))))
    go_wp2_with fail
    have b56:Below w5.heap.size w5 w5:=Below.refl _ _
    have hB6:=hB5.below b56
    have hgr6:=grow_below hgr5 b56
    have hIo6:=hIo5.below b56
    clear b56 hB5 hgr5 hIo5 hT5 hI05 hI15 heB heD
    go_wp2_with fail
    refine (next_any A n c o w5 hIo6 (by omega)).mono ?_
    obtain ⟨nx,hnx⟩:∃ nx,nx=K.nxt31 o:=⟨_,rfl⟩
    rw [←hnx]
    rintro e w7 ⟨hret,b7⟩
    have B7:=hB6.below b7
    have g7:=grow_below hgr6 b7
    rcases hret with ⟨h1,rfl⟩ | ⟨o',A',n',c',h1,hnc',rfl,hI',hA'⟩
    ·have HE:=Lib.hid (show K.pick x.nd x.l x.s x.r (K.orders 25 v) none=b by rw [HPK.out,K.orders_last (hnx.symm.trans h1),HST.out];rfl)
     clear hnx h1 hB6 hgr6
     go_wp2_with fail
     go_roundw
     case rel=>exact ⟨b,none,0,[],false,rfl,rfl,⟨0,rfl,fun h=>(nomatch h)⟩,fun h=>(nomatch h),fun _=>HE.out,B7,g7⟩
     case measure=>rw [leftOf_no,leftOf_yes HIW.out];omega
    ·obtain ⟨k1,k2⟩:=K.orders_next (hnx.symm.trans h1) HLEN.out
     have HPN:=Lib.hid (show K.pick x.nd x.l x.s x.r (K.orders 25 v) none=K.pick x.nd x.l x.s x.r (K.orders 25 o') b by rw [HPK.out,k1,HST.out])
     have HGW:=Lib.hid (Nat.lt_of_lt_of_le hg3 hgr6.size)
     have HLN:=Lib.hid (show (K.orders 25 o').length≤24 by have:=HLEN.out;omega)
     have HLT:=Lib.hid k2
     have hn':n'≤4:=by have h2:=K.next_len (hnx.symm.trans h1);have h3:=hI'.1;have h4:=HIW.out.1;omega
     clear hnx h1 k1 k2 hB6 hgr6
     go_wp2_with fail
     go_roundw
     case rel=>exact ⟨b,A',c',o',true,rfl,rfl,⟨n',rfl,fun _=>⟨hI',hnc',hn',fun _ ad e=>Nat.lt_of_lt_of_le HGW.out (hA' ad e)⟩⟩,fun _=>⟨HPN.out,HLN.out⟩,fun h=>(nomatch h),B7,g7⟩
     case measure=>rw [leftOf_yes hI',leftOf_yes HIW.out];have:=HLT.out;omega
theorem Tryz.underlying109k:Tryz.prog.underlying 109=some (.slice 4):=by kernel_rfl
theorem Tryz.underlying103k:Tryz.prog.underlying 103=some (.slice 111):=by kernel_rfl
theorem Tryz.info4k:(Tryz.prog.info? 4).map (fun i=>(i.zero,i.size,i.bytes))=some (some (.bool false),1,1):=by kernel_rfl
theorem Tryz.info111k:(Tryz.prog.info? 111).map (fun i=>(i.zero,i.size,i.bytes))=some (some (.agg #[.slice none 0 0,.slice none 0 0]),2,48):=by kernel_rfl
theorem K.pow16 {n:Nat} (h:n≤4):2 ^ n≤16:=Nat.pow_le_pow_right (by decide) h
theorem K.pow1 (n:Nat):1≤2 ^ n:=Nat.one_le_two_pow
theorem K.part_len4 (k n:Nat):(K.part (K.iota k) n).length≤k:=by
 have:=K.part_len (K.iota k) n
 rwa [K.iota_len] at this
theorem K.part_iota_succ (k n:Nat):K.part (K.iota (k + 1)) n=K.part (K.iota k) n ++ if n.testBit k=true then [(k:Int)] else []:=by rw [K.iota_succ,K.part_snoc,K.iota_len]
theorem bb_one (y:BB):∀ u ∈ y.cells,u.oneCell'=true:=fun u hu=>by
 simp [BB.cells] at hu
 rcases hu with rfl | rfl <;> rfl
set_option maxRecDepth 100000 in
set_option maxHeartbeats 32000000 in
theorem bests70_any (x:Cs) (w:World) (hx:CsAt w x) (hm4:x.m≤4) (hsn4:x.sn≤4) :
  Calls Tryz.prog 70 #[.agg #[.int .i64 x.nd,.slice x.A x.n x.c],.slice x.SA x.sn x.sc,.slice x.B x.m x.d] w fun e w'=>RetBests x w w' e:=by
 obtain ⟨w1,hw1⟩:∃ w1:World,w1=w.alloc (.cells #[.int .i64 x.nd,.slice x.A x.n x.c] 24):=⟨_,rfl⟩
 have hN1:Net w1 w.heap.size x.nd x.A x.n x.c:=by rw [hw1];exact Net.new w x.nd x.A x.n x.c
 have hb1:Below w.heap.size w w1:=by rw [hw1];exact (Below.refl _ _).alloc (Nat.le_refl _) _
 obtain ⟨G0,hG0⟩:∃ G0,G0=w.heap.size:=⟨_,rfl⟩
 rw [←hG0] at hN1
 have HSN:=Lib.hid hx.shifts.1.1
 have HRN:=Lib.hid hx.reqs.1
 obtain ⟨PW,hPW⟩:∃ p,p=2 ^ x.m:=⟨_,rfl⟩
 have hp16:PW≤16:=by rw [hPW];exact K.pow16 hm4
 have hp1:1≤PW:=by rw [hPW];exact K.pow1 _
 have HPW:=Lib.hid hPW
 have HPR:=Lib.hid (show 2 ^ x.r.length=PW by rw [←HRN.out];exact hPW.symm)
 clear hPW
 obtain ⟨B1,hB1⟩:∃ B1,B1=w1.heap.size:=⟨_,rfl⟩
 have HB1:=Lib.hid hB1
 go_enter Tryz.func70,Tryz.ntmps70
 go_wp2_with fail
 rw [←hw1,←hG0]
 clear hw1 hG0
 go_loopw [7,8] (fun v7 v8 wr=>∃ (s:Nat) (L:List BB),v8=.int .i64 s∧s≤x.sn∧BRow wr B1 v7 L∧Hid (L.length=s)∧Hid (BAll x PW L)∧Below w1.heap.size w1 wr) (fun _ v8 _=>x.sn - (intOf v8).toNat)
 case atStart=>exact ⟨0,[],rfl,Nat.zero_le _,BRow.nil _ _,rfl,fun k y s h=>(by cases h),Below.refl _ _⟩
 case round =>
  obtain ⟨s,L,rfl,hs,hR,hLL,hBA,hbr⟩:=hrel
  obtain ⟨ws,hws⟩:∃ ws,ws=wr:=⟨_,rfl⟩
  rw [←hws] at hR hbr
  rw [←hws]
  clear hws
  by_cases hlt:s < x.sn
  rotate_left
  ·have hd:decide ((s:Int) < (x.sn:Int))=false:=decide_eq_false (by omega)
   have hd2:decide (s < x.sn)=false:=decide_eq_false hlt
   obtain ⟨EA,ec,rfl,hRd,hfr⟩:=own_form hR.row
   have HLS:=Lib.hid (show L.length=x.sn by rw [hLL.out];omega)
   go_wp2_with fail
   go_ret
   exact ⟨⟨EA,_,ec,L,rfl,⟨rfl,hRd⟩,HLS.out,hR.has,fun y hy g e=>Nat.le_trans hb1.size (by rw [←HB1.out];exact (hR.off y hy g e).1),by rw [HPR.out];exact hBA.out⟩,bel hb1 hbr⟩
  have i0:(0:Int)≤(s:Int):=by omega
  have i1:(s:Int) < (x.sn:Int):=by omega
  have d0:decide ((s:Int) < (x.sn:Int))=true:=decide_eq_true i1
  have d0':decide (s < x.sn)=true:=decide_eq_true hlt
  have hbs:=bel hb1 hbr
  have hNs:=hN1.below hbr
  have hxs:=hx.below hbs
  obtain ⟨ads,sS,hSA,hsS,hIS,s0,s1,s2,s3,s4,s5⟩:=hxs.shifts.at_ hlt
  have HSS:=Lib.hid hsS
  have HSM:=Lib.hid (List.mem_of_getElem? hsS)
  have HSA:=Lib.hid hSA
  obtain ⟨BS,hBS⟩:∃ BS,BS=ws.heap.size:=⟨_,rfl⟩
  obtain ⟨w5,hw5⟩:∃ w5:World,w5=((ws.alloc (.cells #[.int .i64 0,.slice none 0 0,.slice none 0 0,.int .i64 0] 80)).alloc (.cells #[.bool true] 4)).alloc (.cells #[.slice (some ⟨BS,0,none⟩) 1 1,.slice (some ⟨BS + 1,0,none⟩) 1 1] 111):=⟨_,rfl⟩
  have b5:Below ws.heap.size ws w5:=by rw [hw5];exact bel (bel ((Below.refl _ _).alloc (Nat.le_refl _) _) ((Below.refl _ _).alloc (Nat.le_refl _) _)) ((Below.refl _ _).alloc (Nat.le_refl _) _)
  have z1:=World.size_alloc ws (.cells #[.int .i64 0,.slice none 0 0,.slice none 0 0,.int .i64 0] 80)
  have z2:=World.size_alloc (ws.alloc (.cells #[.int .i64 0,.slice none 0 0,.slice none 0 0,.int .i64 0] 80)) (.cells #[.bool true] 4)
  have hb0:w5.heap[BS]? = some (.cells #[.int .i64 0,.slice none 0 0,.slice none 0 0,.int .i64 0] 80 (0,0)):=by rw [hw5,hBS];exact blk_alloc (blk_alloc (heap_alloc_new ws _) _) _
  have hb1':w5.heap[BS + 1]? = some (.cells #[.bool true] 4 (0,0)):=by rw [hw5,hBS];exact blk_alloc (heap_alloc_at _ _ _ (by rw [z1])) _
  have hb2:w5.heap[BS + 1 + 1]? = some (.cells #[.slice (some ⟨BS,0,none⟩) 1 1,.slice (some ⟨BS + 1,0,none⟩) 1 1] 111 (0,0)):=by rw [hw5,hBS];exact heap_alloc_at _ _ _ (by rw [z2,z1])
  obtain ⟨gb,hgb⟩:∃ gb,gb=BS + 1 + 1:=⟨_,rfl⟩
  have hSt:BSt w5 BS gb (.slice (some ⟨BS,0,none⟩) 1 1) (.slice (some ⟨BS + 1,0,none⟩) 1 1) [⟨0,none,0,0,none,0,0,K.Tr.zero⟩] [true]:=by
   refine ⟨by rw [hgb];exact hb2,by omega,⟨rfl,.inr ⟨BS,1,_,rfl,Nat.le_refl _,hb0,Nat.le_refl _,by simp [maxLen],rfl,rfl⟩⟩,⟨rfl,.inr ⟨BS + 1,1,_,rfl,by omega,hb1',Nat.le_refl _,by simp [maxLen],rfl,rfl⟩⟩,fun g e e2=>?_,fun e=>?_,fun e=>?_,fun y hy=>?_,fun y hy g e=>?_⟩
   ·injection e with e
    injection e2 with e2
    dsimp only at e e2
    omega
   ·injection e with e
    dsimp only at e
    omega
   ·injection e with e
    dsimp only at e
    omega
   ·rw [List.mem_singleton.1 hy];exact ⟨ints_nil _,ints_nil _⟩
   ·rw [List.mem_singleton.1 hy] at e
    rcases e with ⟨h0,-⟩ | ⟨h0,-⟩ <;> exact absurd h0 (Nat.lt_irrefl 0)
  clear z1 z2 hb0 hb1' hb2 hIS hsS hSA
  go_upto_region 6 with fail
  rw [←hBS,←hgb,←hw5]
  have HBS:=Lib.hid hBS
  clear hw5 hgb d0 d0' hBS
  have hpw:IntKind.i64.wrap ((2:Int) ^ x.m)=(PW:Int):=by rw [wrap_pow (by omega),HPW.out];push_cast;rfl
  have hpw':wrap64 ((2:Int) ^ x.m)=(PW:Int):=by rw [←IntWalk.i64_left];exact hpw
  have hm64:(x.m:Int) < 64:=by omega
  go_wp2_with fail
  go_loopw [10] (fun v10 wr=>∃ (n:Nat) (ts:List TV) (ok:List Bool) (vT vO:Value),v10=.int .i64 n∧1≤n∧n≤PW∧BSt wr BS gb vT vO ts ok∧Hid (BSays x.nd x.l sS x.r s n ts ok)∧Below ws.heap.size ws wr) (fun v10 _=>PW - (intOf v10).toNat)
  case atStart=>exact ⟨1,_,_,_,_,rfl,Nat.le_refl _,hp1,hSt,BSays.one _ _ _ _ _,b5⟩
  case round =>
   clear hSt b5
   obtain ⟨n,ts,ok,vT,vO,rfl,hn1,hnP,hSt,hSy,hbn⟩:=hrel
   obtain ⟨wn,hwn⟩:∃ wn,wn=wr:=⟨_,rfl⟩
   rw [←hwn] at hSt hbn
   rw [←hwn]
   clear hwn
   have HTL:=Lib.hid hSy.out.len.1
   have HOL:=Lib.hid hSy.out.len.2
   have hmk:∀ w',Below ws.heap.size ws w'→(fun w':World=>w'.cell? ⟨G0,0,none⟩=some (.int .i64 x.nd)∧w'.cell? ⟨G0,1,none⟩=some (.slice x.A x.n x.c)∧w'.cell? (ads.add (s * 6))=some (.int .i64 sS.day)∧w'.cell? ⟨(ads.add (s * 6)).block,(ads.add (s * 6)).off + 1,none⟩=some (.int .i64 sS.depot)∧w'.cell? ⟨(ads.add (s * 6)).block,(ads.add (s * 6)).off + 2,none⟩=some (.int .i64 sS.start)∧w'.cell? ⟨(ads.add (s * 6)).block,(ads.add (s * 6)).off + 3,none⟩=some (.int .i64 sS.end_)∧w'.cell? ⟨(ads.add (s * 6)).block,(ads.add (s * 6)).off + 4,none⟩=some (.int .i64 sS.tare)∧w'.cell? ⟨(ads.add (s * 6)).block,(ads.add (s * 6)).off + 5,none⟩=some (.slice sS.A sS.n sS.c)) w':=fun w' h=>by
    have mv:∀ {p:Addr} {v:Value},ws.cell? p=some v→w'.cell? p=some v:=fun g=>(h.cell (cell_lt g)).trans g
    exact ⟨mv hNs.c0,mv hNs.c1,mv s0,mv s1,mv s2,mv s3,mv s4,mv s5⟩
   have HMK:=Lib.hid hmk
   clear hmk
   by_cases hnl:n < PW
   rotate_left
   ·have hd:decide ((n:Int) < (PW:Int))=false:=decide_eq_false (by omega)
    have hd2:decide (n < PW)=false:=decide_eq_false hnl
    have hnP2:n=PW:=by omega
    rw [hnP2] at hSy
    obtain ⟨TA,tc,OA,oc,rfl,rfl,hH,hU⟩:=hSt.done
    obtain ⟨w6,hw6⟩:∃ w6:World,w6=wn.alloc (.cells #[.slice TA ts.length tc,.slice OA ok.length oc] 111):=⟨_,rfl⟩
    obtain ⟨g6,hg6⟩:∃ g6,g6=wn.heap.size:=⟨_,rfl⟩
    have b6:Below wn.heap.size wn w6:=by rw [hw6];exact (Below.refl _ _).alloc (Nat.le_refl _) _
    have hL6:w6.heap[g6]? = some (.cells #[.slice TA ts.length tc,.slice OA ok.length oc] 111 (0,0)):=by rw [hw6,hg6];exact heap_alloc_new _ _
    have q0:=blk_cell hSt.blk 0 _ rfl
    have q1:=blk_cell hSt.blk 1 _ rfl
    have hR6:=(hR.below hbn).below b6
    have hbn6:=bel hbn b6
    have hb6:=bel hbr hbn6
    have hz6:B1≤w6.heap.size:=by rw [HB1.out];exact hb6.size
    have hLl:=hLL.out
    have hL100:L.length≤1000000:=by omega
    have HLx:=Lib.hid hLl
    have hUo:∀ g,UBB ⟨TA,ts.length,tc,ts,OA,ok.length,oc,ok⟩ g→B1≤g∧u7.ownBlock ≠ some g:=fun g e=>by
     have h1:=hU g e
     have h2:=hbr.size
     have h3:=HBS.out
     refine ⟨by rw [HB1.out];omega,fun e2=>?_⟩
     have:=(own_in hR.row g e2).2
     omega
    obtain ⟨i0',hi0,hy0,hy1,hy2⟩:=info_parts Tryz.info111k
    have hSM:=hBA.out.snoc (y:=⟨TA,ts.length,tc,ts,OA,ok.length,oc,ok⟩) (by rw [hLl];exact HSS.out) (by rw [hLl];exact hSy.out)
    have HBA:=Lib.hid hSM
    clear hnP2 hSM hLl
    go_wp2_with (first
     | (at_builtin;rw [←hw6,←hg6];refine wp_append_rd rfl _ _ 103 rfl B1 111 i0' (.agg #[.slice none 0 0,.slice none 0 0]) 2 48 Tryz.underlying103k hi0 hy0 hy1 hy2 rfl (by decide) _ L.length (L.flatMap BB.cells) rfl hR6.row (some ⟨g6,0,none⟩) 1 1 (BB.cells ⟨TA,ts.length,tc,ts,OA,ok.length,oc,ok⟩) rfl (Rd.of_block hL6 2 1 rfl) (bb_one _) (by simp only [maxLen];omega) (by omega) hz6 ?_;intro v' w9 hr9 hg9 ha9)
     | fail)
    have hR9:=hR6.app (hH.below b6) hUo hg9 ha9 (by rw [List.flatMap_append,List.flatMap_singleton];exact hr9)
    have hb9:Below w1.heap.size w1 w9:=below_own2 hb6 hg9 (fun g e=>by rw [←HB1.out];exact (own_in hR6.row g e).1)
    go_roundw
    case rel=>(go_light;exact ⟨s + 1,L ++ [(⟨TA,ts.length,tc,ts,OA,ok.length,oc,ok⟩:BB)],by go_num,hlt,hR9,by show _=_;rw [List.length_append,HLx.out];rfl,HBA.out,hb9⟩)
    case measure=>(go_light;simp [intOf];omega)
   have hd:decide ((n:Int) < (PW:Int))=true:=decide_eq_true (by omega)
   have hd2:decide (n < PW)=true:=decide_eq_true hnl
   go_wp2_with fail
   go_loopw [11,12] (fun v11 v12 wr=>∃ k:Nat,v12=.int .i64 k∧k≤x.m∧wr.ownsRow wn.heap.size 3 1 v11 (K.part (K.iota k) n).length (intCells (K.part (K.iota k) n))∧Below wn.heap.size wn wr) (fun _ v12 _=>x.m - (intOf v12).toNat)
   case atStart=>exact ⟨0,rfl,Nat.zero_le _,World.ownsRow_nil _ _ _ _,Below.refl _ _⟩
   case round =>
    clear hd hd2
    obtain ⟨k,rfl,hk,hown,hbk⟩:=hrel
    have hLl:=K.part_len4 k n
    obtain ⟨v,hv⟩:∃ v,v=K.part (K.iota k) n:=⟨_,rfl⟩
    rw [←hv] at hown hLl
    have HV:=Lib.hid hv
    clear hv
    by_cases hkm:k < x.m
    ·have k0:(0:Int)≤(k:Int):=by omega
     have k2:k + 1≤x.m:=hkm
     have k3:(k:Int) < 64:=by omega
     have kd:decide ((k:Int) < (x.m:Int))=true:=decide_eq_true (by omega)
     have kd2:decide (k < x.m)=true:=decide_eq_true hkm
     have hb:=bit_at (m:=n) (k:=k) (by omega) (by omega)
     have HSC:=Lib.hid (K.part_iota_succ k n)
     cases hbit:n.testBit k
     ·rw [hbit,if_neg (by decide)] at hb
      have HE:=Lib.hid (show K.part (K.iota (k + 1)) n=v by rw [HSC.out,hbit,HV.out];simp)
      clear hbit
      go_wp2_with fail
      go_roundw
      case rel=>(go_light;exact ⟨k + 1,by go_num,k2,by rw [HE.out];exact hown,hbk⟩)
      case measure=>(go_light;simp [intOf];omega)
     ·rw [hbit,if_pos rfl] at hb
      have HE:=Lib.hid (show K.part (K.iota (k + 1)) n=v ++ [(k:Int)] by rw [HSC.out,hbit,HV.out];simp)
      obtain ⟨g9,hg9⟩:∃ g9,g9=wr.heap.size:=⟨_,rfl⟩
      obtain ⟨w6,hw6⟩:∃ w6:World,w6=wr.alloc (.cells #[.int .i64 k] 3):=⟨_,rfl⟩
      have b6:Below wr.heap.size wr w6:=by rw [hw6];exact bel_alloc0 _ _
      have hB6:w6.heap[g9]? = some (.cells #[.int .i64 k] 3 (0,0)):=by rw [hw6,hg9];exact heap_alloc_new _ _
      have hown6:=own_below hown b6
      have hb6:=bel hbk b6
      have hbs6:wn.heap.size≤w6.heap.size:=hb6.size
      have hv6:v.length≤1000000:=by omega
      clear hbit
      go_wp2_with (first
       | (at_builtin;rw [←hw6,←hg9];refine app_int rfl _ _ rfl wn.heap.size _ v.length v rfl hown6 g9 k rfl hB6 hv6 hbs6 ?_;intro v7 w7 hown7 hgrow7 _)
       | fail)
      have hb7:Below wn.heap.size wn w7:=below_own2 hb6 hgrow7 (fun g e=>(own_in hown6 g e).1)
      go_roundw
      case rel=>(go_light;exact ⟨k + 1,by go_num,k2,by rw [HE.out,List.length_append];exact hown7,hb7⟩)
      case measure=>(go_light;simp [intOf];omega)
    have kd:decide ((k:Int) < (x.m:Int))=false:=decide_eq_false (by omega)
    have kd2:decide (k < x.m)=false:=decide_eq_false hkm
    have hkm2:k=x.m:=by omega
    have HV2:=Lib.hid (show v=K.part (K.iota x.r.length) n by rw [HV.out,hkm2,HRN.out])
    obtain ⟨V,vc,rfl,hVr,hVn⟩:=own_form hown
    have hVI:Ints wr V v.length v:=⟨rfl,hVr⟩
    obtain ⟨vn,hvnl⟩:∃ vn,vn=v.length:=⟨_,rfl⟩
    rw [←hvnl] at hVI hLl ⊢
    have HVN:=Lib.hid hvnl
    clear hkm2 hvnl hVr hVn hown
    obtain ⟨wd,hwd⟩:∃ wd,wd=wr:=⟨_,rfl⟩
    rw [←hwd] at hbk hVI
    rw [←hwd]
    clear hwd
    have hVd:=hVI
    have hvn9:vn≤1000000000:=by omega
    have hv4:K.ok31 (x.one sS).nd (x.one sS).l (x.one sS).s (x.one sS).r v=true→v.length≤4:=fun _=>by rw [←HVN.out];omega
    have hbnd:=bel hbn hbk
    have hAtd:=((hxs.below hbnd).case HSM.out)
    obtain ⟨p0,p1,s0,s1,s2,s3,s4,s5⟩:=HMK.out _ hbnd
    obtain ⟨Y,hY⟩:∃ Y,Y=K.bestOut x.nd x.l sS x.r v:=⟨_,rfl⟩
    have HY:=Lib.hid hY
    have HYB:=Lib.hid (show Y=K.bAt x.nd x.l sS x.r n by unfold K.bAt;rw [if_neg (by omega),←HV2.out];exact hY)
    rw [HSA.out]
    clear hY hVI
    have hmk:∀ w',Below wd.heap.size wd w'→(fun w':World=>w'.cell? ⟨G0,0,none⟩=some (.int .i64 x.nd)∧w'.cell? ⟨G0,1,none⟩=some (.slice x.A x.n x.c)∧w'.cell? (ads.add (s * 6))=some (.int .i64 sS.day)∧w'.cell? ⟨(ads.add (s * 6)).block,(ads.add (s * 6)).off + 1,none⟩=some (.int .i64 sS.depot)∧w'.cell? ⟨(ads.add (s * 6)).block,(ads.add (s * 6)).off + 2,none⟩=some (.int .i64 sS.start)∧w'.cell? ⟨(ads.add (s * 6)).block,(ads.add (s * 6)).off + 3,none⟩=some (.int .i64 sS.end_)∧w'.cell? ⟨(ads.add (s * 6)).block,(ads.add (s * 6)).off + 4,none⟩=some (.int .i64 sS.tare)∧w'.cell? ⟨(ads.add (s * 6)).block,(ads.add (s * 6)).off + 5,none⟩=some (.slice sS.A sS.n sS.c)) w':=fun w' h=>by
     have mv:∀ {p:Addr} {v:Value},wd.cell? p=some v→w'.cell? p=some v:=fun g=>(h.cell (cell_lt g)).trans g
     exact ⟨mv p0,mv p1,mv s0,mv s1,mv s2,mv s3,mv s4,mv s5⟩
    have hbd0:Below wd.heap.size wd wd:=Below.refl _ _
    have S0:=hmk _ hbd0
    have ba:Below wd.heap.size wd (wd.alloc (.cells #[.int .i64 0,.slice none 0 0,.slice none 0 0,.int .i64 0] 80)):=(Below.refl _ _).alloc (Nat.le_refl _) _
    have S0a:=hmk _ ba
    have S0d:=hmk _ hbd0.drew
    have S0ad:=hmk _ ba.drew
    have hAt:=fun w' (h:Below wd.heap.size wd w')=>hAtd.below h
    go_upto_region 15 with fail
    go_cut [13,14] from 48 to 57 (fun vp ve wc=>∃ g A n c A' n' c',vp=.pointer (some ⟨g,0,none⟩)∧ve=.int .i64 Y.2∧TBlk wc g 0 (.slice A n c) (.slice A' n' c') Y.1.end_∧Ints wc A n Y.1.stops∧Ints wc A' n' Y.1.times∧Below wd.heap.size wd wc∧wd.heap.size≤g∧(∀ b,Ft A n b∨Ft A' n' b→b ≠ g∧wd.heap.size≤b))
    case first =>
     go_region_held3 (fun w':World=>w'.cell? ⟨G0,0,none⟩=some (.int .i64 x.nd)∧w'.cell? ⟨G0,1,none⟩=some (.slice x.A x.n x.c)∧w'.cell? (ads.add (s * 6))=some (.int .i64 sS.day)∧w'.cell? ⟨(ads.add (s * 6)).block,(ads.add (s * 6)).off + 1,none⟩=some (.int .i64 sS.depot)∧w'.cell? ⟨(ads.add (s * 6)).block,(ads.add (s * 6)).off + 2,none⟩=some (.int .i64 sS.start)∧w'.cell? ⟨(ads.add (s * 6)).block,(ads.add (s * 6)).off + 3,none⟩=some (.int .i64 sS.end_)∧w'.cell? ⟨(ads.add (s * 6)).block,(ads.add (s * 6)).off + 4,none⟩=some (.int .i64 sS.tare)∧w'.cell? ⟨(ads.add (s * 6)).block,(ads.add (s * 6)).off + 5,none⟩=some (.slice sS.A sS.n sS.c))
      (first | with_reducible exact S1s | with_reducible exact S1b | with_reducible exact S1a | with_reducible exact S1 | with_reducible exact S0ad | with_reducible exact S0a | with_reducible exact S0d | with_reducible exact S0 | fail)
      (first
       | (go_at_call 81;refine (best31_any (x.one sS) V vn vc v _ (hAt _ ?_) (hVd.below ?_) hvn9 hv4).mono ?_;(first | with_reducible exact hbd0 | with_reducible exact ba | with_reducible exact hbd0.drew | with_reducible exact ba.drew);(first | with_reducible exact hbd0 | with_reducible exact ba | with_reducible exact hbd0.drew | with_reducible exact ba.drew);rw [show K.bestOut (x.one sS).nd (x.one sS).l (x.one sS).s (x.one sS).r v=Y from HY.out.symm];rintro e w5 ⟨⟨A0,n0,c0,A1,n1,c1,rfl,hI0,hI1,hf0,hf1⟩,hbn⟩;(first | (have b5:=bel hbd0.drew hbn;have b5b:=bel b5 ((Below.refl _ _).alloc (Nat.le_refl _) (.cells #[.int .i64 0,.slice A0 n0 c0,.slice A1 n1 c1,.int .i64 Y.1.end_] 80));have S1b:=hmk _ b5b;have S1a:=hmk _ (bel b5 ((Below.refl _ _).alloc (Nat.le_refl _) (.cells #[.int .i64 0,.slice none 0 0,.slice none 0 0,.int .i64 0] 80)))) | (have b5:=bel ba.drew hbn;have hT5:=blk_below hbn (heap_alloc_new wd (.cells #[.int .i64 0,.slice none 0 0,.slice none 0 0,.int .i64 0] 80));have S1s:=hmk _ (below_set4 b5 (Nat.le_refl _) (.int .i64 0) (.slice A0 n0 c0) (.slice A1 n1 c1) (.int .i64 Y.1.end_));obtain ⟨t0,t1,t2,t3⟩:=TBlk.cells (h:=0) hT5;have tf:=blk_free hT5));have S1:=hmk _ b5)
       | fail)
     ·have hdz:wd.drew.heap.size=wd.heap.size:=rfl
      have hlo:∀ b,Ft A0 n0 b∨Ft A1 n1 b→b ≠ w5.heap.size∧wd.heap.size≤b:=fun b e=>by
       rcases e with e | e
       ·have h8:=ints_ft hI0 e
        obtain ⟨-,ad,e1,e2⟩:=e
        have h9:=hf0 ad e1
        rw [e2,hdz] at h9
        exact ⟨by omega,h9⟩
       ·have h8:=ints_ft hI1 e
        obtain ⟨-,ad,e1,e2⟩:=e
        have h9:=hf1 ad e1
        rw [e2,hdz] at h9
        exact ⟨by omega,h9⟩
      go_wp2_with fail
      go_meet
      case rel=>(go_light;exact ⟨w5.heap.size,A0,n0,c0,A1,n1,c1,rfl,rfl,heap_alloc_new _ _,hI0.below ((Below.refl _ _).alloc (Nat.le_refl _) _),hI1.below ((Below.refl _ _).alloc (Nat.le_refl _) _),b5b,b5.size,hlo⟩)
     ·have hz9:=World.size_alloc wd (.cells #[.int .i64 0,.slice none 0 0,.slice none 0 0,.int .i64 0] 80)
      have hdz:(wd.alloc (.cells #[.int .i64 0,.slice none 0 0,.slice none 0 0,.int .i64 0] 80)).drew.heap.size=(wd.alloc (.cells #[.int .i64 0,.slice none 0 0,.slice none 0 0,.int .i64 0] 80)).heap.size:=rfl
      have hlo:∀ b,Ft A0 n0 b∨Ft A1 n1 b→b ≠ wd.heap.size∧wd.heap.size≤b:=fun b e=>by
       rcases e with e | e
       ·obtain ⟨-,ad,e1,e2⟩:=e
        have h9:=hf0 ad e1
        rw [e2,hdz,hz9] at h9
        exact ⟨by omega,by omega⟩
       ·obtain ⟨-,ad,e1,e2⟩:=e
        have h9:=hf1 ad e1
        rw [e2,hdz,hz9] at h9
        exact ⟨by omega,by omega⟩
      have hne0:∀ ad':Addr,A0=some ad'→ad'.block ≠ wd.heap.size:=fun ad' e h9=>by
       have h8:=hf0 ad' e
       rw [h9,hdz,hz9] at h8
       omega
      have hne1:∀ ad':Addr,A1=some ad'→ad'.block ≠ wd.heap.size:=fun ad' e h9=>by
       have h8:=hf1 ad' e
       rw [h9,hdz,hz9] at h8
       omega
      have hT9:TBlk ((((w5.setCell ⟨wd.heap.size,0,none⟩ (.int .i64 0)).setCell ⟨wd.heap.size,1,none⟩ (.slice A0 n0 c0)).setCell ⟨wd.heap.size,2,none⟩ (.slice A1 n1 c1)).setCell ⟨wd.heap.size,3,none⟩ (.int .i64 Y.1.end_)) wd.heap.size 0 (.slice A0 n0 c0) (.slice A1 n1 c1) Y.1.end_:=blk_set (blk_set (blk_set (blk_set hT5 0 _) 1 _) 2 _) 3 _
      have b9:=below_set4 b5 (Nat.le_refl _) (.int .i64 0) (.slice A0 n0 c0) (.slice A1 n1 c1) (.int .i64 Y.1.end_)
      clear hz9 hdz
      go_wp2_with fail
      go_meet
      case rel=>(go_light;exact ⟨wd.heap.size,A0,n0,c0,A1,n1,c1,rfl,rfl,hT9,(((hI0.set _ hne0).set _ hne0).set _ hne0).set _ hne0,(((hI1.set _ hne1).set _ hne1).set _ hne1).set _ hne1,b9,Nat.le_refl _,hlo⟩)
    case rest =>
     obtain ⟨g,A0,n0,c0,A1,n1,c1,rfl,rfl,hT,hI0,hI1,hbc,hgw,hfr⟩:=hcut
     rw [←HSA.out]
     have hbnc:=bel hbk hbc
     have hgs:BS≤g:=by have:=hbnd.size;have:=HBS.out;omega
     have hStc:=hSt.below hbnc
     have hglt:=lt_of_block hT
     have hbnk:=hbk
     clear S0 S0a S0d S0ad hmk hAt hVd ba hbd0 hbc p0 p1 s0 s1 s2 s3 s4 s5 hAtd hbk
     obtain ⟨t0,t1,t2,t3⟩:=hT.cells
     have tf:=blk_free hT
     obtain ⟨w6,hw6⟩:∃ w6:World,w6=wc.setCell ⟨g,0,none⟩ (.int .i64 s):=⟨_,rfl⟩
     have hgwn:wn.heap.size≤g:=by have:=hbnk.size;omega
     have bn6:Below wn.heap.size wn w6:=by rw [hw6];exact hbnc.setCell (p:=⟨g,0,none⟩) hgwn _
     have hT6:TBlk w6 g s (.slice A0 n0 c0) (.slice A1 n1 c1) Y.1.end_:=by rw [hw6];exact blk_set hT 0 _
     have hI06:Ints w6 A0 n0 Y.1.stops:=by rw [hw6];exact hI0.set0 _ fun h0 ad e e2=>(hfr g (.inl ⟨h0,ad,e,e2⟩)).1 rfl
     have hI16:Ints w6 A1 n1 Y.1.times:=by rw [hw6];exact hI1.set0 _ fun h0 ad e e2=>(hfr g (.inr ⟨h0,ad,e,e2⟩)).1 rfl
     have hSt6:=hSt.below bn6
     go_upto_region 17 with fail
     rw [←hw6]
     clear hw6 t0 t1 t2 t3 tf hT hI0 hI1 hStc hbnc
     obtain ⟨t0,t1,t2,t3⟩:=hT6.cells
     obtain ⟨w7,hw7⟩:∃ w7:World,w7=w6.alloc (.cells #[.int .i64 s,.slice A0 n0 c0,.slice A1 n1 c1,.int .i64 Y.1.end_] 80):=⟨_,rfl⟩
     obtain ⟨g7,hg7⟩:∃ g7,g7=w6.heap.size:=⟨_,rfl⟩
     have b7:Below w6.heap.size w6 w7:=by rw [hw7];exact bel_alloc0 _ _
     have hL7:w7.heap[g7]? = some (.cells #[.int .i64 s,.slice A0 n0 c0,.slice A1 n1 c1,.int .i64 Y.1.end_] 80 (0,0)):=by rw [hw7,hg7];exact heap_alloc_new _ _
     have hSt7:=hSt6.below b7
     have hbn7:=bel hbn (bel bn6 b7)
     have hz7:BS≤w7.heap.size:=by rw [HBS.out];exact hbn7.size
     have q0:=blk_cell hSt6.blk 0 _ rfl
     have htl6:ts.length≤1000000:=by have:=HTL.out;omega
     have hol6:ok.length≤1000000:=by have:=HOL.out;omega
     have hyo:∀ b,Ft A0 n0 b∨Ft A1 n1 b→BS≤b∧vT.ownBlock ≠ some b∧vO.ownBlock ≠ some b∧b ≠ gb:=fun b e=>by
      have h1:=(hfr b e).2
      have h2:=hbnd.size
      have h3:=HBS.out
      refine ⟨by omega,fun e2=>?_,fun e2=>?_,fun e2=>?_⟩
      ·have:=(own_in hSt.rowT b e2).2
       have:=hbnk.size
       omega
      ·have:=(own_in hSt.rowO b e2).2
       have:=hbnk.size
       omega
      ·have:=lt_of_block hSt.blk
       have:=hbnk.size
       omega
     go_upto_region 18 with (first
      | (at_builtin;rw [←hw7,←hg7];refine app_tour rfl _ _ rfl BS _ ts.length ts rfl hSt7.rowT g7 ⟨s,A0,n0,c0,A1,n1,c1,Y.1⟩ rfl hL7 htl6 hz7 ?_;intro v8 w8 hown8 hgr8 hat8;have hB8:=grow_blk hgr8 hSt7.blk (fun e=>hSt7.nT e.symm);have z0:w8.cell? ⟨gb,0,none⟩=some vT:=blk_cell hB8 0 _ rfl;have zf:=blk_free hB8;obtain ⟨T8,c8,rfl,-,-⟩:=own_form hown8)
      | fail)
     obtain ⟨w9,hw9⟩:∃ w9:World,w9=w8.setCell ⟨gb,0,none⟩ (.slice T8 (ts.length + 1) c8):=⟨_,rfl⟩
     rw [←hw9]
     have hSt9:BSt w9 BS gb (.slice T8 (ts.length + 1) c8) vO (ts ++ [⟨s,A0,n0,c0,A1,n1,c1,Y.1⟩]) ok:=by rw [hw9];exact hSt7.appT ⟨hI06.below b7,hI16.below b7⟩ hyo hgr8 hat8 hown8
     have hbn8:Below ws.heap.size ws w8:=below_own2 hbn7 hgr8 (fun g e=>by rw [←HBS.out];exact (own_in hSt7.rowT g e).1)
     have hbn9:Below ws.heap.size ws w9:=by rw [hw9];exact hbn8.setCell (p:=⟨gb,0,none⟩) (by rw [←HBS.out];exact hSt.hB) _
     clear hw9 hB8 z0 zf hown8 hgr8 hat8 hw7 hg7 hL7 hSt7 hbn7 hz7 q0 hSt6 t0 t1 t2 t3 hI06 hI16 hT6 b7 bn6 hyo hbn8
     obtain ⟨z,hz⟩:∃ z,z=(Y.2 == 0):=⟨_,rfl⟩
     have d1:(Y.2 == 0)=z:=hz.symm
     have d2:decide (Y.2=0)=z:=by rw [hz,Bool.eq_iff_iff];simp
     have HZ:=Lib.hid hz
     clear hz
     obtain ⟨w10,hw10⟩:∃ w10:World,w10=w9.alloc (.cells #[.bool z] 4):=⟨_,rfl⟩
     obtain ⟨g10,hg10⟩:∃ g10,g10=w9.heap.size:=⟨_,rfl⟩
     have b10:Below w9.heap.size w9 w10:=by rw [hw10];exact bel_alloc0 _ _
     have hL10:w10.heap[g10]? = some (.cells #[.bool z] 4 (0,0)):=by rw [hw10,hg10];exact heap_alloc_new _ _
     have hSt10:=hSt9.below b10
     have hbn10:=bel hbn9 b10
     have hz10:BS≤w10.heap.size:=by rw [HBS.out];exact hbn10.size
     have q1:=blk_cell hSt9.blk 1 _ rfl
     obtain ⟨i0',hi0,hy0,hy1,hy2⟩:=info_parts Tryz.info4k
     go_upto_region 8 with (first
      | (at_builtin;rw [←hw10,←hg10];refine wp_append_rd rfl _ _ 109 rfl BS 4 i0' (.bool false) 1 1 Tryz.underlying109k hi0 hy0 hy1 hy2 rfl (by decide) _ ok.length (ok.flatMap boolCells) rfl hSt10.rowO (some ⟨g10,0,none⟩) 1 1 (boolCells z) rfl (Rd.of_block hL10 1 1 rfl) (by intro u hu;rw [show u=.bool z from List.mem_singleton.1 hu];rfl) (by simp only [maxLen];omega) (by omega) hz10 ?_;intro v11 w11 hown11 hgr11 hat11;have hB11:=grow_blk hgr11 hSt10.blk (fun e=>hSt10.nO e.symm);have z0:w11.cell? ⟨gb,1,none⟩=some vO:=blk_cell hB11 1 _ rfl;have zf:=blk_free hB11;obtain ⟨T11,c11,rfl,-,-⟩:=own_form hown11)
      | fail)
     obtain ⟨w12,hw12⟩:∃ w12:World,w12=w11.setCell ⟨gb,1,none⟩ (.slice T11 (ok.length + 1) c11):=⟨_,rfl⟩
     rw [←hw12]
     have hSt12:BSt w12 BS gb (.slice T8 (ts.length + 1) c8) (.slice T11 (ok.length + 1) c11) (ts ++ [⟨s,A0,n0,c0,A1,n1,c1,Y.1⟩]) (ok ++ [z]):=by rw [hw12];exact hSt10.appO hgr11 hat11 hown11
     have hbn11:Below ws.heap.size ws w11:=below_own2 hbn10 hgr11 (fun g e=>by rw [←HBS.out];exact (own_in hSt10.rowO g e).1)
     have hbn12:Below ws.heap.size ws w12:=by rw [hw12];exact hbn11.setCell (p:=⟨gb,1,none⟩) (by rw [←HBS.out];exact hSt.hB) _
     have HSY:=Lib.hid (hSy.out.snoc (y:=⟨s,A0,n0,c0,A1,n1,c1,Y.1⟩) (b:=z) (by omega) (by rw [←HYB.out];rfl) (by rw [←HYB.out];exact HZ.out))
     clear hw12 hB11 z0 zf hown11 hgr11 hat11 hw10 hg10 hL10 hSt10 hbn10 hz10 q1 d1 d2 b10 hSt9 hbn9
     go_wp2_with fail
     go_roundw
     case rel=>(go_light;exact ⟨n + 1,_,_,_,_,by go_num,by omega,hnl,hSt12,HSY.out,hbn12⟩)
     case measure=>(go_light;simp [intOf];omega)
set_option maxHeartbeats 4000000 in
theorem has55_any (A:Option Addr) (n c:Nat) (l:List Int) (x:Int) (w:World) (hl:Ints w A n l) (hn:n≤1000000000) :
  Calls Tryz.prog 55 #[.slice A n c,.int .i64 x] w fun e w'=>e=.returned (.bool (l.any (· == x)))∧Below w.heap.size w w':=by
 go_enter Tryz.func55,Tryz.ntmps55
 go_wp2_with fail
 go_loopw [5] (fun vi wr=>∃ k:Nat,vi=.int .i64 k∧k≤n∧Hid (l.any (· == x)=(l.drop k).any (· == x))∧Below w.heap.size w wr) (fun vi _=>n - (intOf vi).toNat)
 case atStart=>exact ⟨0,rfl,by omega,by show _=_;rw [List.drop_zero],Below.refl _ _⟩
 case round =>
  obtain ⟨k,rfl,hk,hr,hW⟩:=hrel
  by_cases hlt:k < n
  ·obtain ⟨ad,y,rfl,hg,c0⟩:=(hl.below hW).at_ hlt
   have HS:=Lib.hid (drop_any (p:=(· == x)) hg)
   have k0:(0:Int)≤(k:Int):=by omega
   have k1:(k:Int) < (n:Int):=by omega
   clear hg
   by_cases hxy:y=x
   ·have hd1:decide (y=x)=true:=decide_eq_true hxy
    have hd2:(y == x)=true:=beq_iff_eq.2 hxy
    have HR9:=Lib.hid hd2
    clear hxy
    go_wp2_with fail
    go_ret
    exact ⟨by rw [hr.out,HS.out,HR9.out];rfl,hW⟩
   ·have hd1:decide (y=x)=false:=decide_eq_false hxy
    have hd2:(y == x)=false:=beq_eq_false_iff_ne.2 hxy
    have HR9:=Lib.hid hd2
    clear hxy
    go_wp2_with fail
    go_roundw
    case rel=>exact ⟨k + 1,by go_num,by omega,by show _=_;rw [hr.out,HS.out,HR9.out];rfl,hW⟩
    case measure=>simp [intOf];omega
  ·have HD:=Lib.hid (show l.drop k=[] from List.drop_eq_nil_of_le (by rw [←hl.1];omega))
   go_wp2_with fail
   go_ret
   exact ⟨by rw [hr.out,HD.out];rfl,hW⟩
set_option maxHeartbeats 4000000 in
theorem rpart80_any (PA:Option Addr) (n c:Nat) (l:List Int) (B:Option Addr) (m d:Nat) (v:List Int) (w:World) (hl:Ints w PA n l) (hn:n≤1000000000) (hv:Ints w B m v) (hm:m≤1000000000) :
  Calls Tryz.prog 80 #[.slice PA n c,.slice B m d] w fun e w'=>e=.returned (.bool (A.part l v))∧Below w.heap.size w w':=by
 obtain ⟨R,hR⟩:∃ R,R=A.part l v:=⟨_,rfl⟩
 rw [←hR]
 have HR:=Lib.hid (show R=l.all fun x=>v.any (· == x) from hR)
 clear hR
 go_enter Tryz.func80,Tryz.ntmps80
 go_wp2_with fail
 go_loopw [5] (fun vi wr=>∃ k:Nat,vi=.int .i64 k∧k≤n∧Hid (R=(l.drop k).all fun x=>v.any (· == x))∧Below w.heap.size w wr) (fun vi _=>n - (intOf vi).toNat)
 case atStart=>exact ⟨0,rfl,by omega,by show _=_;rw [List.drop_zero];exact HR.out,Below.refl _ _⟩
 case round =>
  obtain ⟨k,rfl,hk,hr,hW⟩:=hrel
  by_cases hlt:k < n
  ·obtain ⟨ad,y,rfl,hg,c0⟩:=(hl.below hW).at_ hlt
   have HS:=Lib.hid (drop_all (p:=fun x=>v.any (· == x)) hg)
   have k0:(0:Int)≤(k:Int):=by omega
   have k1:(k:Int) < (n:Int):=by omega
   obtain ⟨b,hb⟩:∃ b,b=v.any (· == y):=⟨_,rfl⟩
   have HB:=Lib.hid hb
   clear hg hb
   go_wp2_with fail
   refine (has55_any B m d v y wr (hv.below hW) hm).mono ?_
   rw [←HB.out]
   rintro e w1 ⟨rfl,b1⟩
   have hW1:=bel hW b1
   cases b
   ·go_wp2_with fail
    go_ret
    exact ⟨by rw [hr.out,HS.out,←HB.out];rfl,hW1⟩
   ·go_wp2_with fail
    go_roundw
    case rel=>exact ⟨k + 1,by go_num,by omega,by show _=_;rw [hr.out,HS.out,←HB.out];rfl,hW1⟩
    case measure=>simp [intOf];omega
  ·have HD:=Lib.hid (show l.drop k=[] from List.drop_eq_nil_of_le (by rw [←hl.1];omega))
   go_wp2_with fail
   go_ret
   exact ⟨by rw [hr.out,HD.out];rfl,hW⟩
namespace K
def right32 (nd:Int) (l:List Ro) (ss:List S) (r:List Q):Bool:=(netErr nd l == 0) && (decide (ss.length≤4) && (!ss.any (badS nd) && !r.any (badQ nd)))
theorem pcheck_right (nd:Int) (l:List Ro) (ss:List S) (r:List Q):pcheck nd l ss r=if right32 nd l ss r=true then (if 6 < r.length then 6 else 0) else 1:=by
 unfold pcheck right32
 by_cases h1:netErr nd l=0
 ·by_cases h2:ss.length≤4
  ·cases h3:ss.any (badS nd) <;> cases h4:r.any (badQ nd) <;> simp [h1,h2]
  ·cases h3:ss.any (badS nd) <;> cases h4:r.any (badQ nd) <;> simp [h1,h2]
 ·simp [h1]
end K
set_option maxRecDepth 100000 in
set_option maxHeartbeats 16000000 in
theorem rright111_any (x:Cs) (w:World) (hx:CsAt w x) :
  Calls Tryz.prog 111 #[.agg #[.int .i64 x.nd,.slice x.A x.n x.c],.slice x.SA x.sn x.sc,.slice x.B x.m x.d] w fun e w'=>e=.returned (.bool (K.right32 x.nd x.l x.ss x.r))∧Below w.heap.size w w':=by
 obtain ⟨R,hR⟩:∃ R,R=K.right32 x.nd x.l x.ss x.r:=⟨_,rfl⟩
 rw [←hR]
 have HR:=Lib.hid (show R=((K.netErr x.nd x.l == 0) && (decide (x.ss.length≤4) && (!x.ss.any (K.badS x.nd) && !x.r.any (K.badQ x.nd)))) from hR)
 clear hR
 obtain ⟨w1,hw1⟩:∃ w1:World,w1=w.alloc (.cells #[.int .i64 x.nd,.slice x.A x.n x.c] 24):=⟨_,rfl⟩
 have b0:Below w.heap.size w w1:=by rw [hw1];exact (Below.refl _ _).alloc (Nat.le_refl _) _
 obtain ⟨G0,hG0⟩:∃ G0,G0=w.heap.size:=⟨_,rfl⟩
 have hN:Net w1 G0 x.nd x.A x.n x.c:=by rw [hw1,hG0];exact Net.new w x.nd x.A x.n x.c
 have hsnb:=hx.b3
 have hmb:=hx.b4
 have HSN:=Lib.hid hx.shifts.1.1
 have HRN:=Lib.hid hx.reqs.1
 have p0:=hN.c0
 have p1:=hN.c1
 obtain ⟨ne,hne⟩:∃ ne,ne=K.netErr x.nd x.l:=⟨_,rfl⟩
 go_enter Tryz.func111,Tryz.ntmps111
 go_wp2_with fail
 rw [←hw1,←hG0]
 clear hw1 hG0
 refine (rnetcheck_any x.nd x.A x.n x.c x.l _ (Lst.below hx.net b0) hx.b1).mono ?_
 rw [←hne]
 rintro e w2 ⟨rfl,b2⟩
 have HNE:=Lib.hid hne
 have hN:=hN.below b2
 have hb2:=bel b0 b2
 clear p0 p1 b0 b2 hne
 by_cases hz:ne=0
 rotate_left
 ·have hd:(ne != 0)=true:=by simp [bne,hz]
  have HX:=Lib.hid (show R=false by rw [HR.out,←HNE.out];simp [hz])
  have hd2:decide (ne=0)=false:=by simp [hz]
  clear hz
  go_wp2_with fail
  go_ret
  exact ⟨by rw [HX.out];rfl,hb2⟩
 subst hz
 by_cases h4:x.sn≤4
 rotate_left
 ·have hd:decide ((4:Int) < (x.sn:Int))=true:=by simp;omega
  have hd2:decide (4 < x.sn)=true:=by simp;omega
  have HX:=Lib.hid (show R=false by rw [HR.out,←HSN.out];simp [h4])
  clear h4
  go_wp2_with fail
  go_ret
  exact ⟨by rw [HX.out];rfl,hb2⟩
 have hd:decide ((4:Int) < (x.sn:Int))=false:=by simp;omega
 have hd2:decide (4 < x.sn)=false:=by simp;omega
 have HR2:=Lib.hid (show R=(!x.ss.any (K.badS x.nd) && !x.r.any (K.badQ x.nd)) by
  have h0:(K.netErr x.nd x.l == 0)=true:=by rw [←HNE.out];rfl
  have h9:decide (x.ss.length≤4)=true:=decide_eq_true (by rw [←HSN.out];exact h4)
  rw [HR.out,h0,h9,Bool.true_and,Bool.true_and])
 clear HR HNE
 go_wp2_with fail
 clear hd hd2
 go_loopw [7] (fun v wr=>∃ k:Nat,v=.int .i64 k∧k≤x.sn∧Hid (x.ss.any (K.badS x.nd)=(x.ss.drop k).any (K.badS x.nd))∧Below w2.heap.size w2 wr) (fun v _=>x.sn - (intOf v).toNat)
 case atStart=>exact ⟨0,rfl,Nat.zero_le _,(by show _=_;rw [List.drop_zero]),Below.refl _ _⟩
 case round =>
  obtain ⟨k,rfl,hk,hr,hbr⟩:=hrel
  have hbw:=bel hb2 hbr
  by_cases hlt:k < x.sn
  ·obtain ⟨ad,s,hA,hs,hI,c0,c1,c2,c3,c4,c5⟩:=(hx.shifts.below hbw).at_ hlt
   have HS:=Lib.hid (drop_any (p:=K.badS x.nd) hs)
   have hsn:=hx.b2 s (List.mem_of_getElem? hs)
   have k0:(0:Int)≤(k:Int):=by omega
   have k1:(k:Int) < (x.sn:Int):=by omega
   obtain ⟨ce,hce⟩:∃ ce,ce=T.check s:=⟨_,rfl⟩
   have CK:∀ i:Beh wr,Calls Tryz.prog 154 #[.agg #[.int .i64 s.day,.int .i64 s.depot,.int .i64 s.start,.int .i64 s.end_,.int .i64 s.tare,.slice s.A s.n s.c]] i.val fun e w'=>e=.returned (.int .i64 ce)∧Below i.val.heap.size i.val w':=fun i=>by rw [hce];exact rcheck_any s i.val (hI.below i.property) hsn
   have q0:=Beh.cell (hN.below hbr).c0
   have e0:=Beh.cell c0
   have e1:=Beh.cell c1
   have e2:=Beh.cell c2
   have e3:=Beh.cell c3
   have e4:=Beh.cell c4
   have e5:=Beh.cell c5
   have HBD:=Lib.hid (show K.badS x.nd s=(!(ce == 0) || decide (x.nd≤s.depot)) by rw [hce];rfl)
   clear hs hI hce c0 c1 c2 c3 c4 c5
   rw [hA]
   clear hA
   go_upto_region 6 with fail
   obtain ⟨z1,hz1⟩:∃ z,z=(ce != 0):=⟨_,rfl⟩
   have HZ1:=Lib.hid (show (ce == 0)=!z1 by rw [hz1];simp [bne])
   obtain ⟨z2,hz2⟩:∃ z,z=decide (x.nd≤s.depot):=⟨_,rfl⟩
   have HZ2:=Lib.hid hz2.symm
   have f1:=hz1.symm
   have f2:=hz2.symm
   clear hz1 hz2
   have HBB:=Lib.hid (show K.badS x.nd s=(z1 || z2) by rw [HBD.out,HZ1.out,HZ2.out,Bool.not_not])
   have h5:z1=true∨(z1=false∧z2=true)∨(z1=false∧z2=false):=by cases z1 <;> cases z2 <;> simp
   rcases h5 with rfl | ⟨rfl,rfl⟩ | ⟨rfl,rfl⟩
   all_goals
    refine reg_beh (by kernel_rfl) (by kernel_rfl) ?_
    repeat (go_big_quiet_step ((go_at_call 154;exact Beh.calls (CK _))))
    refine wpQuiet_nil ?_
    rintro w4 ⟨⟨w4,b4⟩,rfl⟩
    have hb4:=bel hbr b4
    have hb42:=bel hb2 hb4
    clear CK q0 e0 e1 e2 e3 e4 e5 f1 f2
    go_wp2_with fail
    first
     | (go_ret
        exact ⟨by rw [HR2.out,hr.out,HS.out,HBB.out];simp,hb42⟩)
     | (go_roundw
        case rel=>exact ⟨k + 1,by go_num,hlt,by show _=_;rw [hr.out,HS.out,HBB.out];rfl,hb4⟩
        case measure=>simp [intOf];omega)
  ·have HD:=Lib.hid (show x.ss.drop k=[] from List.drop_eq_nil_of_le (by rw [←HSN.out];omega))
   have hd:decide ((k:Int) < (x.sn:Int))=false:=by simp;omega
   have hd2:decide (k < x.sn)=false:=by simp;omega
   have HR3:=Lib.hid (show R=!x.r.any (K.badQ x.nd) by rw [HR2.out,hr.out,HD.out];rfl)
   have hN3:=hN.below hbr
   clear hr HD HR2 hlt hk
   go_wp2_with fail
   clear hd hd2
   go_loopw [8] (fun v wq=>∃ k:Nat,v=.int .i64 k∧k≤x.m∧Hid (x.r.any (K.badQ x.nd)=(x.r.drop k).any (K.badQ x.nd))∧Below wr.heap.size wr wq) (fun v _=>x.m - (intOf v).toNat)
   case atStart=>exact ⟨0,rfl,Nat.zero_le _,(by show _=_;rw [List.drop_zero]),Below.refl _ _⟩
   case round =>
    obtain ⟨k,rfl,hk,hr,hbq⟩:=hrel
    have hbw2:=bel hbw hbq
    by_cases hlt:k < x.m
    ·obtain ⟨ad,q,hA,hq,hI,c0,c1,c2,c3,c4,c5,c6⟩:=(hx.reqs.below hbw2).at_ hlt
     have HS:=Lib.hid (drop_any (p:=K.badQ x.nd) hq)
     have hqn:=hx.b5 q (List.mem_of_getElem? hq)
     have k0:(0:Int)≤(k:Int):=by omega
     have k1:(k:Int) < (x.m:Int):=by omega
     obtain ⟨ce,hce⟩:∃ ce,ce=T.right q:=⟨_,rfl⟩
     have CK:∀ i:Beh wr,Calls Tryz.prog 152 #[.agg #[.int .i64 q.node,.int .i64 q.room,.int .i64 q.kilos,.int .i64 q.service,.int .i64 q.frm,.int .i64 q.by_,.slice q.A q.n q.c]] i.val fun e w'=>e=.returned (.bool ce)∧Below i.val.heap.size i.val w':=fun i=>by rw [hce];exact rright29_any q i.val (hI.below i.property) hqn
     have q0:=Beh.cell (hN3.below hbq).c0
     have e0:=Beh.cell c0
     have e1:=Beh.cell c1
     have e2:=Beh.cell c2
     have e3:=Beh.cell c3
     have e4:=Beh.cell c4
     have e5:=Beh.cell c5
     have e6:=Beh.cell c6
     have HBD:=Lib.hid (show K.badQ x.nd q=(!ce || decide (x.nd≤q.node)) by rw [hce];rfl)
     clear hq hI hce c0 c1 c2 c3 c4 c5 c6
     rw [hA]
     clear hA
     go_upto_region 11 with fail
     obtain ⟨z2,hz2⟩:∃ z,z=decide (x.nd≤q.node):=⟨_,rfl⟩
     have HZ2:=Lib.hid hz2.symm
     have f2:=hz2.symm
     clear hz2
     have HBB:=Lib.hid (show K.badQ x.nd q=(!ce || z2) by rw [HBD.out,HZ2.out])
     have h5:ce=false∨(ce=true∧z2=true)∨(ce=true∧z2=false):=by cases ce <;> cases z2 <;> simp
     rcases h5 with rfl | ⟨rfl,rfl⟩ | ⟨rfl,rfl⟩
     all_goals
      refine reg_beh (by kernel_rfl) (by kernel_rfl) ?_
      repeat (go_big_quiet_step ((go_at_call 152;exact Beh.calls (CK _))))
      refine wpQuiet_nil ?_
      rintro w4 ⟨⟨w4,b4⟩,rfl⟩
      have hb4:=bel hbq b4
      have hb42:=bel hbw hb4
      clear CK q0 e0 e1 e2 e3 e4 e5 e6 f2
      go_wp2_with fail
      first
       | (go_ret
          exact ⟨by rw [HR3.out,hr.out,HS.out,HBB.out];rfl,hb42⟩)
       | (go_roundw
          case rel=>exact ⟨k + 1,by go_num,hlt,by show _=_;rw [hr.out,HS.out,HBB.out];rfl,hb4⟩
          case measure=>simp [intOf];omega)
    ·have HD:=Lib.hid (show x.r.drop k=[] from List.drop_eq_nil_of_le (by rw [←HRN.out];omega))
     have hd:decide ((k:Int) < (x.m:Int))=false:=by simp;omega
     have hd2:decide (k < x.m)=false:=by simp;omega
     go_wp2_with fail
     go_ret
     exact ⟨by rw [HR3.out,hr.out,HD.out];rfl,hbw2⟩
set_option maxRecDepth 100000 in
set_option maxHeartbeats 4000000 in
theorem rstart69_any (x:Cs) (w:World) (hx:CsAt w x) :
  Calls Tryz.prog 69 #[.agg #[.int .i64 x.nd,.slice x.A x.n x.c],.slice x.SA x.sn x.sc,.slice x.B x.m x.d] w fun e w'=>e=.returned (.int .i64 (K.pcheck x.nd x.l x.ss x.r))∧Below w.heap.size w w':=by
 obtain ⟨P,hP⟩:∃ P,P=K.pcheck x.nd x.l x.ss x.r:=⟨_,rfl⟩
 rw [←hP]
 have HP:=Lib.hid (hP.trans (K.pcheck_right _ _ _ _))
 clear hP
 obtain ⟨w1,hw1⟩:∃ w1:World,w1=w.alloc (.cells #[.int .i64 x.nd,.slice x.A x.n x.c] 24):=⟨_,rfl⟩
 have b0:Below w.heap.size w w1:=by rw [hw1];exact (Below.refl _ _).alloc (Nat.le_refl _) _
 obtain ⟨G0,hG0⟩:∃ G0,G0=w.heap.size:=⟨_,rfl⟩
 have hN:Net w1 G0 x.nd x.A x.n x.c:=by rw [hw1,hG0];exact Net.new w x.nd x.A x.n x.c
 have p0:=hN.c0
 have p1:=hN.c1
 have hmb:=hx.b4
 have HRN:=Lib.hid hx.reqs.1
 go_enter Tryz.func69,Tryz.ntmps69
 go_wp2_with fail
 rw [←hw1,←hG0]
 clear hw1 hG0
 refine (rright111_any x _ (hx.below b0)).mono ?_
 obtain ⟨z,hz⟩:∃ z,z=K.right32 x.nd x.l x.ss x.r:=⟨_,rfl⟩
 rw [←hz]
 rw [←hz] at HP
 clear hz
 rintro e w2 ⟨rfl,b2⟩
 have hb2:=bel b0 b2
 clear p0 p1
 cases z
 ·have HX:=Lib.hid (show P=1 from HP.out)
  go_wp2_with fail
  go_ret
  exact ⟨by rw [HX.out];rfl,hb2⟩
 by_cases h6:6 < x.m
 ·have hd:decide ((6:Int) < (x.m:Int))=true:=by simp;omega
  have hd2:decide (6 < x.m)=true:=by simp;omega
  have HX:=Lib.hid (show P=6 by rw [HP.out,if_pos rfl,if_pos (by rw [←HRN.out];exact h6)])
  clear h6
  go_wp2_with fail
  go_ret
  exact ⟨by rw [HX.out];rfl,hb2⟩
 ·have hd:decide ((6:Int) < (x.m:Int))=false:=by simp;omega
  have hd2:decide (6 < x.m)=false:=by simp;omega
  have HX:=Lib.hid (show P=0 by rw [HP.out,if_pos rfl,if_neg (by rw [←HRN.out];exact h6)])
  clear h6
  go_wp2_with fail
  go_ret
  exact ⟨by rw [HX.out];rfl,hb2⟩
end Go.Proofs.YtippdjmpkafifaaGreat
