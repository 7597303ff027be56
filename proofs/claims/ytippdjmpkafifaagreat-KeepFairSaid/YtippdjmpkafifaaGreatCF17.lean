import Derived.Test.YtippdjmpkafifaaGreatCF16
import Derived.Test.YtippdjmpkafifaaGreatCF7
import Derived.Test.YtippdjmpkafifaaGreatCF9
import Derived.Deep.Light
namespace Go.Proofs.YtippdjmpkafifaaGreat
open Go.RowKit
set_option maxRecDepth 100000 in
set_option maxHeartbeats 16000000 in
theorem rchecks27_any (x:Cs) (TA:Option Addr) (tn tc:Nat) (ts:List TV) (w:World) (hx:CsAt w x) (hT:Tours w TA tn ts) (hF:FewT tn ts) (hyc:∀ y ∈ ts,y.n≤y.c) :
  Calls Tryz.prog 27 #[.agg #[.int .i64 x.nd,.slice x.A x.n x.c],.slice x.SA x.sn x.sc,.slice x.B x.m x.d,.slice TA tn tc] w fun e w'=>e=.returned (.int .i64 (K.checks x.nd x.l x.ss x.r (ts.map TV.pr)))∧Below w.heap.size w w':=by
 obtain ⟨w0,hw0⟩:∃ w0:World,w0=w.alloc (.cells #[.int .i64 x.nd,.slice x.A x.n x.c] 24):=⟨_,rfl⟩
 have b0:Below w.heap.size w w0:=by rw [hw0];exact (Below.refl _ _).alloc (Nat.le_refl _) _
 obtain ⟨G0,hG0⟩:∃ G0,G0=w.heap.size:=⟨_,rfl⟩
 have hN:Net w0 G0 x.nd x.A x.n x.c:=by rw [hw0,hG0];exact Net.new w x.nd x.A x.n x.c
 have p0:=hN.c0
 have p1:=hN.c1
 go_enter Tryz.func27,Tryz.ntmps27
 go_wp2_with fail
 rw [←hw0,←hG0]
 clear hw0 hG0
 refine (rstart69_any x _ (hx.below b0)).mono ?_
 obtain ⟨ce,hce⟩:∃ ce,ce=K.pcheck x.nd x.l x.ss x.r:=⟨_,rfl⟩
 rw [←hce]
 rintro e w1 ⟨rfl,b1⟩
 have hN1:=hN.below b1
 have hb1:=bel b0 b1
 clear p0 p1 b0 b1 hN
 by_cases hz:ce=0
 rotate_left
 ·have HX:=Lib.hid (show K.checks x.nd x.l x.ss x.r (ts.map TV.pr)=ce by rw [hce] at hz ⊢;exact K.checks_net hz)
  have hd:(ce != 0)=true:=by simp [bne,hz]
  clear hce
  go_wp2_with fail
  go_ret
  exact ⟨by rw [HX.out];rfl,hb1⟩
 subst hz
 have HOK:=Lib.hid hce.symm
 clear hce
 have HSN:=Lib.hid hx.shifts.1.1
 have HRN:=Lib.hid hx.reqs.1
 have HTN:=Lib.hid hT.1.1
 have hm6:x.m≤6:=by rw [HRN.out];exact (K.pcheck_ok HOK.out).2.2.2.2
 have hsn4:x.sn≤4:=by rw [HSN.out];exact (K.pcheck_ok HOK.out).2.1
 have HCK:=Lib.hid (show K.checks x.nd x.l x.ss x.r (ts.map TV.pr)=_ from K.checks_go HOK.out)
 obtain ⟨L,hL⟩:∃ L,L=ts.map TV.pr:=⟨_,rfl⟩
 rw [←hL] at HCK
 have HL:=Lib.hid hL
 obtain ⟨htn9,hty⟩:=hF
 have HYC:=Lib.hid hyc
 clear hyc
 clear hL
 have hown0:w1.ownsRow w1.heap.size 3 1 (.slice none 0 0) ([]:List Int).length (intCells []):=World.ownsRow_nil _ _ _ _
 go_wp2_with fail
 go_loopw [10,11] (fun v10 v11 wr=>∃ (k:Nat) (last:Int) (served:List Int),v11=.int .i64 k∧k≤tn∧wr.ownsRow w1.heap.size 3 1 v10 served.length (intCells served)∧Below w1.heap.size w1 wr∧Hid (served.Nodup∧(∀ z ∈ served,0≤z∧z < (x.m:Int)))∧served.length≤6∧Hid (K.checks x.nd x.l x.ss x.r L=K.checkGo x.nd x.l x.ss x.r last served (L.drop k))∧Hid ((k=0∧last=-1)∨∃ j y,k=j + 1∧ts[j]? = some y∧y.sh=last)) (fun _ v11 _=>tn - (intOf v11).toNat)
 case atStart=>exact ⟨0,-1,[],rfl,Nat.zero_le _,hown0,Below.refl _ _,⟨List.nodup_nil,fun z hz=>(by cases hz)⟩,Nat.zero_le _,HCK.out,.inl ⟨rfl,rfl⟩⟩
 case round =>
  clear hown0
  obtain ⟨k,last,served,rfl,hk,hown,hbr,hsv,hl6,hck,hla⟩:=hrel
  by_cases hlt:k < tn
  ·obtain ⟨ad,y,hTA,hy,⟨hI1,hI2⟩,c0,c1,c2,c3⟩:=(hT.below (bel hb1 hbr)).at_ hlt
   have HYM:=Lib.hid (List.mem_of_getElem? hy)
   obtain ⟨hyn,hyn'⟩:=hty y (List.mem_of_getElem? hy)
   have hLk:L[k]? = some y.pr:=by rw [HL.out,List.getElem?_map,hy];rfl
   have HDR:=Lib.hid (show K.checks x.nd x.l x.ss x.r L=K.checkGo x.nd x.l x.ss x.r last served (y.pr :: L.drop (k + 1)) by rw [hck.out,drop_of_some hLk])
   have HLA2:=Lib.hid (show ts[k]? = some y from hy)
   have k0:(0:Int)≤(k:Int):=by omega
   have k1:(k:Int) < (tn:Int):=by omega
   obtain ⟨g,hg⟩:∃ g,g=wr.heap.size:=⟨_,rfl⟩
   obtain ⟨w3,hw3⟩:∃ w3:World,w3=wr.alloc (.cells #[.int .i64 y.sh,.slice y.A y.n y.c,.slice y.A' y.n' y.c',.int .i64 y.t.end_] 80):=⟨_,rfl⟩
   have b3:Below wr.heap.size wr w3:=by rw [hw3];exact (Below.refl _ _).alloc (Nat.le_refl _) _
   have hB3:TBlk w3 g y.sh (.slice y.A y.n y.c) (.slice y.A' y.n' y.c') y.t.end_:=by rw [hw3,hg];exact heap_alloc_new _ _
   have hown3:=own_below hown b3
   have hb3:=bel hbr b3
   have hI13:=hI1.below b3
   have hI23:=hI2.below b3
   have hN3:=hN1.below hb3
   have hTp:=hT.below (bel hb1 hb3)
   clear hy hLk hck hown hI1 hI2 hbr
   have HYN:=Lib.hid hI13.1
   obtain ⟨t0,t1,t2,t3⟩:=hB3.cells
   rw [hTA]
   go_upto_region 9 with fail
   rw [←hw3,←hg]
   clear hw3 hg c0 c1 c2 c3 b3
   by_cases hneg:y.sh < 0
   ·have hd1:decide (y.sh < 0)=true:=decide_eq_true hneg
    have HX:=Lib.hid (show K.checks x.nd x.l x.ss x.r L=1 by rw [HDR.out];exact K.cg_neg (.inl hneg))
    clear hneg
    go_wp2_with fail
    go_ret
    exact ⟨by rw [←HL.out,HX.out];rfl,bel hb1 hb3⟩
   have hd1:decide (y.sh < 0)=false:=decide_eq_false hneg
   by_cases hbig:(x.sn:Int)≤y.sh
   ·have hd2:decide ((x.sn:Int)≤y.sh)=true:=decide_eq_true hbig
    have HX:=Lib.hid (show K.checks x.nd x.l x.ss x.r L=1 by rw [HDR.out];exact K.cg_neg (.inr (by rw [←HSN.out];exact hbig)))
    clear hneg hbig
    go_wp2_with fail
    go_ret
    exact ⟨by rw [←HL.out,HX.out];rfl,bel hb1 hb3⟩
   have hd2:decide ((x.sn:Int)≤y.sh)=false:=decide_eq_false hbig
   obtain ⟨s,hs⟩:∃ s:Nat,y.sh=(s:Int):=⟨y.sh.toNat,by omega⟩
   have hsn:s < x.sn:=by omega
   obtain ⟨ads,sS,hSA,hsS,hIS,s0,s1,s2,s3,s4,s5⟩:=((hx.below hb1).below hb3).shifts.at_ hsn
   have HST:Hid (K.checks x.nd x.l x.ss x.r L=if y.sh≤last then 5 else if y.t.stops.isEmpty || !(K.check x.nd x.l sS x.r y.t) then 24 else if y.t.stops.any (fun k=>served.any (· == k)) then 5 else K.checkGo x.nd x.l x.ss x.r y.sh (served ++ y.t.stops) (L.drop (k + 1))) :=
    Lib.hid (HDR.out.trans (K.cg_some (t:=y.pr) (by show 0≤y.sh;omega) (by show x.ss[y.sh.toNat]? = _;rw [hs];exact hsS)))
   have hsm:=List.mem_of_getElem? hsS
   have HSS:=Lib.hid hs
   have HSX:=Lib.hid hsS
   clear hs HDR hsS hneg hbig hSA
   obtain ⟨zl,hzl⟩:∃ z,z=decide (y.sh≤last):=⟨_,rfl⟩
   have HZL:=Lib.hid hzl
   clear hzl
   go_upto_region 11 with fail
   clear hd1 hd2
   go_cut [54] from 41 to 54 (fun v54 wc=>v54=.bool zl∧Below w3.heap.size w3 wc)
   case first =>
    have q0:=Beh.cell t0
    rcases hla.out with ⟨rfl,hl9⟩ | ⟨j,yj,rfl,hyj,hl9⟩
    ·have hz0:zl=false:=by rw [HZL.out,hl9,HSS.out];simp;omega
     subst hz0
     have f1:decide ((0:Int) < ((0:Nat):Int))=false:=by decide
     clear s0 s1 s2 s3 s4 s5 t0 t1 t2 t3
     refine reg_beh (by kernel_rfl) (by kernel_rfl) ?_
     repeat (go_big_quiet_step (fail))
     refine wpQuiet_nil ?_
     rintro w4 ⟨⟨w4,b4⟩,rfl⟩
     go_wp2_with fail
     go_meet
     exact ⟨rfl,b4⟩
    ·obtain ⟨adj,yj',hTA',hyj',-,cj0,-,-,-⟩:=hTp.at_ (show j < tn by omega)
     rw [hTA] at hTA'
     injection hTA' with hTA'
     subst hTA'
     rw [hyj] at hyj'
     injection hyj' with hyj'
     subst hyj'
     have qj:=Beh.cell cj0
     have f1:decide ((0:Int) < ((j + 1:Nat):Int))=true:=by simp
     have f2:((j + 1:Nat):Int) - 1=(j:Int):=by omega
     have f3:IntKind.i64.wrap (((j + 1:Nat):Int) - 1)=(j:Int):=by rw [f2];exact IntWalk.i64_in _ (by omega)
     have f4:decide ((j:Int) < 0)=false:=by simp
     have f5:max (j:Int) 0=(j:Int):=by omega
     have f6:(j:Int) < (tn:Int):=by omega
     have f7:(0:Int)≤(j:Int):=by omega
     have f8:decide (y.sh≤yj.sh)=zl:=by rw [HZL.out,hl9]
     clear s0 s1 s2 s3 s4 s5 t0 t1 t2 t3 hyj hl9
     refine reg_beh (by kernel_rfl) (by kernel_rfl) ?_
     repeat (go_big_quiet_step (fail))
     refine wpQuiet_nil ?_
     rintro w4 ⟨⟨w4,b4⟩,rfl⟩
     go_wp2_with fail
     go_meet
     trace_state
     exact ⟨rfl,b4⟩
   case rest =>
    obtain ⟨rfl,b4⟩:=hcut
    have hB4:=hB3.below b4
    have hown4:=own_below hown3 b4
    have hb4:=bel hb3 b4
    have hI14:=hI13.below b4
    have hI24:=hI23.below b4
    have hN4:=hN3.below b4
    have hx4:=((hx.below hb1).below hb3).below b4
    clear t0 t1 t2 t3 s0 s1 s2 s3 s4 s5 hB3 hown3 hI13 hI23 hN3 hTp hIS
    cases zl
    rotate_left
    ·have HX:=Lib.hid (show K.checks x.nd x.l x.ss x.r L=5 by rw [HST.out,if_pos (of_decide_eq_true HZL.out.symm)])
     go_wp2_with fail
     go_ret
     exact ⟨by rw [←HL.out,HX.out];rfl,bel hb1 hb4⟩
    have HST2:=Lib.hid (HST.out.trans (if_neg (of_decide_eq_false HZL.out.symm)))
    obtain ⟨t0,t1,t2,t3⟩:=hB4.cells
    clear HST HZL
    go_wp2_with fail
    by_cases hn0:y.n=0
    ·have hd4:((y.n:Int) == 0)=true:=by rw [hn0];rfl
     have hd5:decide ((y.n:Int)=0)=true:=by rw [hn0];rfl
     have HX:=Lib.hid (show K.checks x.nd x.l x.ss x.r L=24 by
      rw [HST2.out,show y.t.stops=[] from List.length_eq_zero_iff.1 (by rw [←HYN.out];exact hn0)];rfl)
     clear hn0
     go_quiet (fail)
     go_wp2_with fail
     go_ret
     exact ⟨by rw [←HL.out,HX.out];rfl,bel hb1 (below_drewN hb4 _)⟩
    have hd4:((y.n:Int) == 0)=false:=by simp [hn0]
    have hd5:decide ((y.n:Int)=0)=false:=by simp [hn0]
    have hie:y.t.stops.isEmpty=false:=by
     cases he:y.t.stops with
     | nil=>have h9:=HYN.out;rw [he] at h9;exact absurd h9 hn0
     | cons a b=>rfl
    rw [hie,Bool.false_or] at HST2
    obtain ⟨ads',sS',hSA',hsS',hIS',s0,s1,s2,s3,s4,s5⟩:=hx4.shifts.at_ hsn
    obtain rfl:sS'=sS:=by have:=HSX.out;rw [hsS'] at this;injection this
    have p0:=Beh.cell hN4.c0
    have p1:=Beh.cell hN4.c1
    have q0:=Beh.cell t0
    have q1:=Beh.cell t1
    have q2:=Beh.cell t2
    have q3:=Beh.cell t3
    have r0:=Beh.cell s0
    have r1:=Beh.cell s1
    have r2:=Beh.cell s2
    have r3:=Beh.cell s3
    have r4:=Beh.cell s4
    have r5:=Beh.cell s5
    obtain ⟨cb,hcb⟩:∃ cb,cb=K.check x.nd x.l sS' x.r y.t:=⟨_,rfl⟩
    have HCB:=Lib.hid hcb
    rw [←hcb] at HST2
    have CT2:∀ i:Beh wc,Calls Tryz.prog 87 #[.agg #[.int .i64 x.nd,.slice x.A x.n x.c],.agg #[.int .i64 sS'.day,.int .i64 sS'.depot,.int .i64 sS'.start,.int .i64 sS'.end_,.int .i64 sS'.tare,.slice sS'.A sS'.n sS'.c],.slice x.B x.m x.d,.agg #[.int .i64 s,.slice y.A y.n y.c,.slice y.A' y.n' y.c',.int .i64 y.t.end_]] i.val fun e w'=>e=.returned (.bool cb)∧Below i.val.heap.size i.val w':=fun i=>by
     rw [hcb]
     have h9:=rtcheck_any (x.one sS') y i.val ((hx4.below i.property).case hsm) ⟨hI14.below i.property,hI24.below i.property,by omega,hyn'⟩ hyn (HYC.out y HYM.out)
     rw [HSS.out] at h9
     exact h9
    have ks0:(0:Int)≤(s:Int):=by omega
    have ks1:(s:Int) < (x.sn:Int):=by omega
    clear hcb hie hn0 hsS' hIS' s0 s1 s2 s3 s4 s5
    rw [HSS.out] at t0 q0
    rw [hSA']
    have HSA:=Lib.hid hSA'
    clear hSA'
    refine reg_beh (by kernel_rfl) (by kernel_rfl) ?_
    repeat (go_big_quiet_step ((go_at_call 87;exact Beh.calls (CT2 _))))
    refine wpQuiet_nil ?_
    rintro w5 ⟨⟨w5,b5⟩,rfl⟩
    rw [←HSA.out]
    have hB5:=hB4.below b5
    have hown5:=own_below hown4 b5
    have hb5:=bel hb4 b5
    have hI15:=hI14.below b5
    clear p0 p1 q0 q1 q2 q3 r0 r1 r2 r3 r4 r5 t0 t1 t2 t3 CT2 hB4 hown4 hI14 hI24 hN4 hx4 hd4 hd5 ks0 ks1 b5 b4
    obtain ⟨t0,t1,t2,t3⟩:=hB5.cells
    cases cb
    ·have HX:=Lib.hid (show K.checks x.nd x.l x.ss x.r L=24 by rw [HST2.out];rfl)
     clear t0 t1 t2 t3
     go_wp2_with fail
     go_ret
     exact ⟨by rw [←HL.out,HX.out];rfl,bel hb1 hb5⟩
    rw [show (!true)=false from rfl]
    obtain ⟨-,hst2,hst3⟩:=K.check_run HCB.out.symm
    have HS3:=Lib.hid hst3
    have HS2:=Lib.hid (show ∀ z ∈ y.t.stops,0≤z∧z < (x.m:Int) from fun z hz=>by have:=hst2 z hz;have:=HRN.out;omega)
    have HST3:=Lib.hid (show K.checks x.nd x.l x.ss x.r L=if y.t.stops.any (fun k=>served.any (· == k)) then 5 else K.checkGo x.nd x.l x.ss x.r y.sh (served ++ y.t.stops) (L.drop (k + 1)) by rw [HST2.out];rfl)
    have hown5c:=hown5
    obtain ⟨A9,c9,rfl,hRd9,hF9⟩:=own_form hown5c
    clear hown5c
    have hIs:Ints w5 A9 served.length served:=⟨rfl,hRd9⟩
    clear HST2 hst2 hst3 t0 t1 t2 t3
    go_wp2_with fail
    go_loopw [13] (fun v13 wi=>∃ j:Nat,v13=.int .i64 j∧j≤y.n∧Hid (y.t.stops.any (fun k=>served.any (· == k))=(y.t.stops.drop j).any (fun k=>served.any (· == k)))∧Below w5.heap.size w5 wi) (fun v13 _=>y.n - (intOf v13).toNat)
    case atStart=>exact ⟨0,rfl,Nat.zero_le _,(by show _=_;rw [List.drop_zero]),Below.refl _ _⟩
    case round =>
     obtain ⟨j,rfl,hj,hany,hbi⟩:=hrel
     have hBi:=hB5.below hbi
     obtain ⟨t0,t1,t2,t3⟩:=hBi.cells
     by_cases hltj:j < y.n
     ·obtain ⟨ady,z,hyA,hz,cz⟩:=(hI15.below hbi).at_ hltj
      have HAN:=Lib.hid (drop_any (p:=fun k=>served.any (· == k)) hz)
      obtain ⟨hb_,hhb⟩:∃ b,b=served.any (· == z):=⟨_,rfl⟩
      have HHB:=Lib.hid hhb
      have CH:=has55_any A9 served.length c9 served z wr (hIs.below hbi) (by omega)
      rw [←hhb] at CH
      have kj0:(0:Int)≤(j:Int):=by omega
      have kj1:(j:Int) < (y.n:Int):=by omega
      clear hz hhb
      rw [hyA] at t1
      clear hyA
      go_wp2_with fail
      refine CH.mono ?_
      rintro e w6 ⟨rfl,b6⟩
      have hb6:=bel hbi b6
      clear t0 t1 t2 t3 CH
      cases hb_
      ·go_wp2_with fail
       go_roundw
       case rel=>(go_light;exact ⟨j + 1,by go_num,hltj,(by show _=_;rw [hany.out,HAN.out,←HHB.out];rfl),hb6⟩)
       case measure=>(go_light;simp [intOf];omega)
      ·have HX:=Lib.hid (show K.checks x.nd x.l x.ss x.r L=5 by rw [HST3.out,hany.out,HAN.out,←HHB.out];rfl)
       go_wp2_with fail
       go_ret
       exact ⟨by rw [←HL.out,HX.out];rfl,bel hb1 (bel hb5 hb6)⟩
     ·have hd:decide ((j:Int) < (y.n:Int))=false:=by simp;omega
      have hd2:decide (j < y.n)=false:=by simp;omega
      have HDB:=Lib.hid (show y.t.stops.any (fun k=>served.any (· == k))=false by
       rw [hany.out,List.drop_eq_nil_of_le (by rw [←HYN.out];omega)];rfl)
      have HST4:=Lib.hid (show K.checks x.nd x.l x.ss x.r L=K.checkGo x.nd x.l x.ss x.r y.sh (served ++ y.t.stops) (L.drop (k + 1)) by rw [HST3.out,HDB.out];rfl)
      have hnd:=K.nodup_app hsv.out.1 HS3.out HDB.out
      have hrg:∀ z ∈ served ++ y.t.stops,0≤z∧z < (x.m:Int):=fun z hz=>(List.mem_append.1 hz).elim (hsv.out.2 z) (HS2.out z)
      have hlen:=K.nodup_len hnd hrg
      have hln6:(served ++ y.t.stops).length≤6:=by omega
      have HND:=Lib.hid (And.intro hnd hrg)
      have HSN2:=Lib.hid (show y.n=y.t.stops.length from HYN.out)
      have hown6:=own_below hown5 hbi
      have hIy:=hI15.below hbi
      obtain ⟨i0,hi,hz0,hz1,hz2⟩:=info_parts Tryz.info3
      have hl9:served.length + y.n≤1000:=by rw [List.length_append] at hln6;have:=HYN.out;omega
      have hsz9:w1.heap.size≤wr.heap.size:=Nat.le_trans hb5.size hbi.size
      have hb6:=bel hb5 hbi
      have HKT:=Lib.hid (show k + 1≤tn from hlt)
      clear hnd hrg hlen hlt HST3 hany hltj hj
      go_wp2_with (first
       | (at_builtin;refine wp_append_rd rfl _ _ 48 rfl w1.heap.size 3 i0 (.int .i64 0) 1 8 Tryz.underlying48 hi hz0 hz1 hz2 rfl (by decide) _ served.length (intCells served) rfl hown6 y.A y.n y.c (intCells y.t.stops) rfl hIy.2 (intCells_one _) (by simp only [maxLen];omega) (by omega) hsz9 ?_;intro v7 w7 hown7 hgr7 _)
       | fail)
      have hb7:Below w1.heap.size w1 w7:=below_own2 hb6 hgr7 (fun g e=>(hown6.lt g e).1)
      have hown7':w7.ownsRow w1.heap.size 3 1 v7 (served ++ y.t.stops).length (intCells (served ++ y.t.stops)):=by
       rw [List.length_append,←HSN2.out,intCells_app]
       exact hown7
      clear hown7 hown6 t0 t1 t2 t3
      go_roundw
      case rel=>(go_light;exact ⟨k + 1,y.sh,served ++ y.t.stops,by go_num,HKT.out,hown7',hb7,HND.out,hln6,HST4.out,.inr ⟨k,y,rfl,HLA2.out,rfl⟩⟩)
      case measure=>(go_light;simp [intOf];omega)
  ·have HE:=Lib.hid (show K.checks x.nd x.l x.ss x.r L=if served.length < x.m then 4 else 0 by
    rw [hck.out,List.drop_eq_nil_of_le (by rw [HL.out,List.length_map,←HTN.out];omega),HRN.out]
    rfl)
   have hdk:decide ((k:Int) < (tn:Int))=false:=by simp;omega
   have hdk2:decide (k < tn)=false:=by simp;omega
   obtain ⟨A9,c9,rfl,-,-⟩:=own_form hown
   by_cases hlm:served.length < x.m
   ·have hd:decide ((served.length:Int) < (x.m:Int))=true:=by simp;omega
    have hdn:decide (served.length < x.m)=true:=decide_eq_true hlm
    go_wp2_with fail
    go_ret
    exact ⟨by rw [←HL.out,HE.out,if_pos hlm];rfl,bel hb1 hbr⟩
   ·have hd:decide ((served.length:Int) < (x.m:Int))=false:=by simp;omega
    have hdn:decide (served.length < x.m)=false:=decide_eq_false hlm
    go_wp2_with fail
    go_ret
    exact ⟨by rw [←HL.out,HE.out,if_neg hlm];rfl,bel hb1 hbr⟩
set_option maxHeartbeats 4000000 in
theorem samelab_any (A B:Option Addr) (n m c d:Nat) (la lb:List Lb) (w:World) (hla:Labs w A n la) (hlb:Labs w B m lb) (hn:n≤1000000000) (hm:m≤1000000000) :
  Calls Tryz.prog 83 #[.slice A n c,.slice B m d] w fun e w'=>e=.returned (.bool (decide (la=lb)))∧Below w.heap.size w w':=by
 by_cases hnm:n=m
 ·obtain rfl:=hnm
  go_enter Tryz.func83,Tryz.ntmps83
  go_wp2_with fail
  go_loopw [5] (fun vi wr=>∃ k:Nat,vi=.int .i64 k∧k≤n∧Hid (la.take k=lb.take k)∧Below w.heap.size w wr) (fun vi _=>n - (intOf vi).toNat)
  case atStart=>exact ⟨0,rfl,by omega,rfl,Below.refl _ _⟩
  case round =>
   obtain ⟨k,rfl,hk,hr,hb⟩:=hrel
   by_cases hlt:k < n
   ·obtain ⟨ad,o,rfl,hg,c0,c1,c2⟩:=Labs.at_ (Lst.below hla hb) hlt
    obtain ⟨ad2,o2,rfl,hg2,d0,d1,d2⟩:=Labs.at_ (Lst.below hlb hb) hlt
    have HN:=Lib.hid (take_eq_nextl hg hg2 hr.out)
    have k0:(0:Int)≤(k:Int):=by omega
    have k1:(k:Int) < (n:Int):=by omega
    clear hg hg2
    cases e1:(o.set == o2.set)
    ·have HX:=Lib.hid (fun h=>(show ¬ o=o2 from fun e=>by rw [e] at e1;simp at e1) (HN.out.1 h))
     go_wp2_with fail
     go_quiet (fail)
     go_wp2_with fail
     go_ret
     exact ⟨ret_b (Eq.symm (decide_eq_false (fun h=>HX.out (by rw [h])))),below_drewN hb _⟩
    cases e2:(o.last == o2.last)
    ·have HX:=Lib.hid (fun h=>(show ¬ o=o2 from fun e=>by rw [e] at e2;simp at e2) (HN.out.1 h))
     go_wp2_with fail
     go_quiet (fail)
     go_wp2_with fail
     go_ret
     exact ⟨ret_b (Eq.symm (decide_eq_false (fun h=>HX.out (by rw [h])))),below_drewN hb _⟩
    cases e3:(o.time == o2.time)
    ·have HX:=Lib.hid (fun h=>(show ¬ o=o2 from fun e=>by rw [e] at e3;simp at e3) (HN.out.1 h))
     go_wp2_with fail
     go_quiet (fail)
     go_wp2_with fail
     go_ret
     exact ⟨ret_b (Eq.symm (decide_eq_false (fun h=>HX.out (by rw [h])))),below_drewN hb _⟩
    have HX:=Lib.hid (HN.out.2 (Lb.eq_iff.2 ⟨by simpa using e1,by simpa using e2,by simpa using e3⟩))
    go_wp2_with fail
    go_quiet (fail)
    go_wp2_with fail
    go_roundw
    case rel=>exact ⟨k + 1,by go_num,by omega,HX.out,below_drewN hb _⟩
    case measure=>simp [intOf];omega
   ·have HX:=Lib.hid (show la=lb by
     have h:=hr.out
     rw [List.take_of_length_le (by rw [←hla.1];omega),List.take_of_length_le (by rw [←hlb.1];omega)] at h
     exact h)
    go_wp2_with fail
    go_ret
    exact ⟨ret_b (Eq.symm (decide_eq_true HX.out)),hb⟩
 ·have HX:=Lib.hid (show ¬ la=lb from fun h=>hnm (by rw [hla.1,hlb.1,h]))
  have q1:(((n:Nat):Int) != ((m:Nat):Int))=true:=by simp;omega
  go_enter Tryz.func83,Tryz.ntmps83
  go_wp2_with fail
  go_ret
  exact ⟨ret_b (Eq.symm (decide_eq_false HX.out)),Below.refl _ _⟩
namespace K
def nextI (l:List Int):Nat→Option Nat
 | 0=>none
 | j + 1=>if (l[j + 1]?).getD 0 < (l[j]?).getD 0 then nextI l j else some j
section
variable {f : Int → Int} {l : List Int}
def Keeps (f:Int→Int) (l:List Int):Prop:=∀ a ∈ l,∀ b ∈ l,(f a < f b ↔ a < b)
end
end K
namespace K
theorem noted_comm {y1 t1 y2 t2:Int} (f:Int) (g1:-1≤y1) (g2:-1≤t1) (g3:-1≤y2) (g4:-1≤t2):noted y1 (noted y2 f t2) t1=noted y2 (noted y1 f t1) t2:=by
 unfold noted
 by_cases h1:y1=-1 <;> by_cases h2:y2=-1 <;> by_cases h3:t1=-1 <;> by_cases h4:t2=-1 <;> simp only [h1,h2,h3,h4,ne_eq,not_true_eq_false,not_false_eq_true,false_and,true_and,if_false,and_false] <;> (repeat' split) <;> omega
theorem firsts_noted {nd:Int} {l:List Ro} {wt tn y t:Int} (hy:-1≤y) (ht:-1≤t):∀ (z:List (Int × Int)) (f:Int),(∀ p ∈ z,-1≤p.2)→firsts nd l wt tn z (noted y f t)=noted y (firsts nd l wt tn z f) t
 | [],_,_=>rfl
 | p :: z,f,hz=>by
  have h1:∀ f,firsts nd l wt tn (p :: z) f=firsts nd l wt tn z (noted (way nd l p.1 wt tn) f p.2):=fun _=>rfl
  rw [h1,h1,noted_comm f (way_bd _ _ _ _ _).1 (hz p (List.mem_cons_self ..)) hy ht,firsts_noted hy ht z _ fun q hq=>hz q (List.mem_cons_of_mem _ hq)]
def may (s:S) (r:List Q) (q:Q) (all:List Int) (f:Int):Bool :=
 (H.fit q.l f q.service).2 && (decide (0≤f) && (decide (f≤s.end_) && (decide ((H.fit q.l f q.service).1 + q.service≤s.end_) && (T.fits s r all && (decide (q.frm≤s.day) && decide (s.day≤q.by_))))))
theorem labelOf_may {s:S} {r:List Q} {q:Q} {all:List Int} {f:Int}:labelOf s r q all f=if may s r q all f=true then (H.fit q.l f q.service).1 + q.service else -1:=by
 unfold labelOf
 by_cases h1:f=-1
 ·rw [if_pos h1,if_neg]
  simp only [may,Bool.and_eq_true,decide_eq_true_eq]
  omega
 rw [if_neg h1]
 by_cases h2:(begins s r q all f).2=true
 ·rw [if_pos h2]
  obtain ⟨a1,a2,a3,a4,a5,a6,a7⟩:=begins_ok h2
  rw [a3] at a6 ⊢
  have a8:¬ (s.day < q.frm∨q.by_ < s.day∨s.end_ < f∨T.fits s r all=false):=fun h=>(a1 ▸ h:False)
  rw [if_pos]
  simp only [may,Bool.and_eq_true,decide_eq_true_eq]
  have a9:T.fits s r all=true:=by
   cases h:T.fits s r all with
   | true=>rfl
   | false=>exact absurd (.inr (.inr (.inr h))) a8
  have b1:¬ s.day < q.frm:=fun h=>a8 (.inl h)
  have b2:¬ q.by_ < s.day:=fun h=>a8 (.inr (.inl h))
  have b3:¬ s.end_ < f:=fun h=>a8 (.inr (.inr (.inl h)))
  exact ⟨a2,a4,by omega,a6,a9,by omega,by omega⟩
 ·rw [if_neg h2,if_neg]
  intro h
  simp only [may,Bool.and_eq_true,decide_eq_true_eq] at h
  obtain ⟨c1,c2,c3,c4,c5,c6,c7⟩:=h
  apply h2
  unfold begins
  rw [if_neg]
  ·simp only [Bool.and_eq_true,decide_eq_true_eq]
   exact ⟨c1,c4⟩
  ·rintro (h | h | h | h)
   ·omega
   ·omega
   ·omega
   ·rw [c5] at h;cases h
section
variable (nd : Int) (l : List Ro) (s : S) (r : List Q) (v : List Int)
def locGo (rest:Nat) (tn:Int):Nat→Int
 | 0=>-1
 | i + 1=>noted (way nd l (req r ((v[i]?).getD 0)).node (T.weight s r (part v rest)) tn) (locGo rest tn i) (lab nd l s r v rest i)
def locF (rest:Nat) (tn:Int):Int:=noted (way nd l s.depot (T.weight s r (part v rest)) tn) (locGo nd l s r v rest tn v.length) (if rest=0 then s.start else -1)
def nlab (m i:Nat):Nat:=(tabLabs v.length (table nd l s r v (2 ^ v.length)) m).length + (rowLabs m (((table nd l s r v (2 ^ v.length))[m]?).getD []) i).length
end
section
variable {nd : Int} {l : List Ro} {s : S} {r : List Q} {v : List Int}
theorem locGo_bd (hc:Case31 nd l s r v) (rest:Nat) (tn:Int):∀ i,-1≤locGo nd l s r v rest tn i∧locGo nd l s r v rest tn i≤60001000000
 | 0=>by simp [locGo]
 | i + 1=>by
  have h1:=locGo_bd hc rest tn i
  have h2:=way_bd nd l (req r ((v[i]?).getD 0)).node (T.weight s r (part v rest)) tn
  have h3:=lab_bd hc rest i
  rw [locGo]
  unfold noted
  split <;> omega
theorem locF_bd (hc:Case31 nd l s r v) (hs:s.start≤1000000) (rest:Nat) (tn:Int):-1≤locF nd l s r v rest tn∧locF nd l s r v rest tn≤60001000000:=by
 have h1:=locGo_bd hc rest tn v.length
 have h2:=way_bd nd l s.depot (T.weight s r (part v rest)) tn
 have h3:=hc.start
 unfold locF
 by_cases h:rest=0
 ·rw [if_pos h]
  unfold noted
  split <;> omega
 ·rw [if_neg h,noted_no2 rfl]
  exact h1
theorem locGo_firsts (rest:Nat) (tn:Int):∀ i,i≤v.length→locGo nd l s r v rest tn i=firsts nd l (T.weight s r (part v rest)) tn (((nodes r v).zip (rowOf nd l s r v (table nd l s r v rest) rest)).take i) (-1)
 | 0,_=>rfl
 | i + 1,hi=>by
  have hil:i < v.length:=hi
  have hz:((nodes r v).zip (rowOf nd l s r v (table nd l s r v rest) rest))[i]? = some ((req r ((v[i]?).getD 0)).node,lab nd l s r v rest i):=by
   rw [List.getElem?_zip_eq_some]
   refine ⟨by rw [nodes,List.getElem?_map,List.getElem?_eq_getElem hil];rfl,?_⟩
   unfold lab
   rw [List.getElem?_eq_getElem (by rw [rowOf_len];exact hil),Option.getD_some]
  rw [locGo,locGo_firsts rest tn i (by omega),take_snoc hz]
  unfold firsts
  rw [List.foldl_append]
  rfl
theorem locF_arrives (hc:Case31 nd l s r v) (rest:Nat) (q:Q):locF nd l s r v rest q.node=arrives nd l s r v (rowOf nd l s r v (table nd l s r v rest) rest) rest q:=by
 have h1:first0 nd l s (T.weight s r (part v rest)) q.node rest=noted (way nd l s.depot (T.weight s r (part v rest)) q.node) (-1) (if rest=0 then s.start else -1):=by
  unfold first0
  by_cases h:rest=0
  ·rw [if_pos h,if_pos h]
  ·rw [if_neg h,if_neg h,noted_no2 rfl]
 unfold arrives locF
 have hst:=hc.start
 rw [h1,firsts_noted (way_bd _ _ _ _ _).1 (by split <;> omega) _ _ fun p hp=>?_,locGo_firsts rest q.node v.length (Nat.le_refl _),List.take_of_length_le (by rw [List.length_zip,rowOf_len];omega)]
 obtain ⟨a,b⟩:=p
 exact (rowOf_bd (fun k hk=>(hc.ok k hk).1) b (List.of_mem_zip hp).2).1
theorem lab_local (hc:Case31 nd l s r v) {m i:Nat} {k:Int} (hm:m < 2 ^ v.length) (hk:v[i]? = some k) (hb:m.testBit i=true) :
  lab nd l s r v m i=labelOf s r (req r k) (part v m) (locF nd l s r v (m - 2 ^ i) (req r k).node):=by
 have hil:=(List.getElem?_eq_some_iff.1 hk).1
 have hl6:=hc.len
 have hm64:m < 64:=Nat.lt_of_lt_of_le hm (Nat.pow_le_pow_right (by omega) hl6)
 obtain ⟨hre,hrb⟩:=bit_rest hm64 (by omega) hb
 have hpw:=Nat.two_pow_pos i
 unfold lab
 rw [rowOf_at hk,Option.getD_some,if_pos hb,table_at (by omega),Option.getD_some,label,hre,locF_arrives hc]
theorem lab_no {m i:Nat} (hb:m.testBit i=false):lab nd l s r v m i=-1:=by
 unfold lab
 cases h:v[i]? with
 | none =>
  have:v.length≤i:=by simpa using h
  rw [List.getElem?_eq_none (by rw [rowOf_len];exact this)]
  rfl
 | some k=>rw [rowOf_at h,hb];rfl
theorem rowLabs_zero (row:List Int):∀ i,rowLabs 0 row i=[]
 | 0=>rfl
 | i + 1=>by rw [rowLabs,rowLabs_zero row i,Nat.zero_testBit];rfl
theorem nlab_zero:nlab nd l s r v 1 0=0:=by
 unfold nlab
 rw [tabLabs,rowLabs_zero]
 rfl
theorem nlab_skip {m i:Nat} (h:m.testBit i=false):nlab nd l s r v m (i + 1)=nlab nd l s r v m i:=by
 unfold nlab
 rw [rowLabs,h]
 simp
theorem nlab_next {m i:Nat} (h:m.testBit i=true):nlab nd l s r v m (i + 1)=nlab nd l s r v m i + 1:=by
 unfold nlab
 rw [rowLabs,h]
 simp
 omega
theorem nlab_row (m:Nat):nlab nd l s r v m v.length=nlab nd l s r v (m + 1) 0:=by
 unfold nlab
 rw [tabLabs,List.length_append]
 rfl
theorem nlab_end (h:ok31 nd l s r v=true):nlab nd l s r v (2 ^ v.length) 0=(labs nd l s r v).length:=by
 unfold nlab labs
 rw [if_pos h]
 rfl
theorem rowLabs_pre {m:Nat} {row:List Int} {i:Nat}:∀ {j:Nat},i≤j→∃ x,rowLabs m row j=rowLabs m row i ++ x
 | 0,h=>⟨[],by rw [show i=0 by omega];simp⟩
 | j + 1,h=>by
  by_cases e:i=j + 1
  ·exact ⟨[],by rw [e];simp⟩
  ·obtain ⟨x,hx⟩:=rowLabs_pre (m:=m) (row:=row) (i:=i) (j:=j) (by omega)
   exact ⟨_,by rw [rowLabs,hx,List.append_assoc]⟩
theorem tabLabs_pre {n:Nat} {t:List (List Int)} {i:Nat}:∀ {j:Nat},i≤j→∃ x,tabLabs n t j=tabLabs n t i ++ x
 | 0,h=>⟨[],by rw [show i=0 by omega];simp⟩
 | j + 1,h=>by
  by_cases e:i=j + 1
  ·exact ⟨[],by rw [e];simp⟩
  ·obtain ⟨x,hx⟩:=tabLabs_pre (n:=n) (t:=t) (i:=i) (j:=j) (by omega)
   exact ⟨_,by rw [tabLabs,hx,List.append_assoc]⟩
theorem labs_nth (h:ok31 nd l s r v=true) {m i:Nat} (hm:m < 2 ^ v.length) (hi:i < v.length) (hb:m.testBit i=true):(labs nd l s r v)[nlab nd l s r v m i]? = some ⟨m,i,lab nd l s r v m i⟩:=by
 obtain ⟨x,hx⟩:=tabLabs_pre (n:=v.length) (t:=table nd l s r v (2 ^ v.length)) (i:=m + 1) (j:=2 ^ v.length) hm
 obtain ⟨y,hy⟩:=rowLabs_pre (m:=m) (row:=((table nd l s r v (2 ^ v.length))[m]?).getD []) (i:=i + 1) (j:=v.length) hi
 unfold labs
 rw [if_pos h,hx,tabLabs,hy]
 unfold nlab
 rw [rowLabs,hb,if_pos rfl,List.append_assoc,List.getElem?_append_right (by omega),Nat.add_sub_cancel_left,List.append_assoc,List.append_assoc,List.getElem?_append_right (Nat.le_refl _),Nat.sub_self,table_at hm]
 rfl
end
end K
namespace K
def lessV (a b:Int):Int:=if a < 0∨(0≤b∧b < a) then b else a
def refLabel (s:S) (r:List Q) (q:Q) (all:List Int) (f:Int):Int :=
 if s.day < q.frm∨q.by_ < s.day∨T.fits s r all=false then -1
 else if f < 0∨s.end_ < f then -1
 else if (H.fit q.l f q.service).2=false∨s.end_ < (H.fit q.l f q.service).1 + q.service then -1
 else (H.fit q.l f q.service).1 + q.service
theorem refLabel_eq (s:S) (r:List Q) (q:Q) (all:List Int) (f:Int):refLabel s r q all f=labelOf s r q all f:=by
 rw [labelOf_may]
 unfold refLabel may
 cases h1:T.fits s r all <;> cases h2:(H.fit q.l f q.service).2 <;> simp <;> (repeat' split) <;> first | rfl | omega
section
variable {nd : Int} {l : List Ro} {s : S} {r : List Q} {v : List Int}
theorem lab_zero (i:Nat):lab nd l s r v 0 i=-1:=lab_no (Nat.zero_testBit i)
theorem locGo_zero (tn:Int):∀ i,locGo nd l s r v 0 tn i=-1
 | 0=>rfl
 | i + 1=>by rw [locGo,locGo_zero tn i,lab_zero,noted_no2 rfl]
theorem locF_zero (tn:Int):locF nd l s r v 0 tn=if way nd l s.depot (T.weight s r (part v 0)) tn < 0 then -1 else if s.start=-1 then -1 else s.start + way nd l s.depot (T.weight s r (part v 0)) tn:=by
 have hw:=way_bd nd l s.depot (T.weight s r (part v 0)) tn
 unfold locF
 rw [locGo_zero,if_pos rfl]
 unfold noted
 by_cases h1:way nd l s.depot (T.weight s r (part v 0)) tn < 0
 ·rw [if_pos h1,if_neg (by omega)]
 ·rw [if_neg h1]
  by_cases h2:s.start=-1
  ·rw [if_pos h2,if_neg (by omega)]
  ·rw [if_neg h2,if_pos ⟨by omega,h2,.inl rfl⟩]
theorem locF_pos {rest:Nat} (h:rest ≠ 0) (tn:Int):locF nd l s r v rest tn=locGo nd l s r v rest tn v.length:=by
 unfold locF
 rw [if_neg h,noted_no2 rfl]
theorem locGo_skip {rest i:Nat} {tn:Int} (h:lab nd l s r v rest i=-1):locGo nd l s r v rest tn (i + 1)=locGo nd l s r v rest tn i:=by rw [locGo,noted_no2 h]
theorem locGo_none {rest i:Nat} {tn k:Int} (hk:v[i]? = some k) (h:way nd l (req r k).node (T.weight s r (part v rest)) tn < 0):locGo nd l s r v rest tn (i + 1)=locGo nd l s r v rest tn i:=by
 have hw:=way_bd nd l (req r k).node (T.weight s r (part v rest)) tn
 rw [locGo,hk,Option.getD_some,noted_no1 (by omega)]
theorem locGo_less (hc:Case31 nd l s r v) {rest i:Nat} {tn k:Int} (hk:v[i]? = some k) (h1:0≤lab nd l s r v rest i) (h2:0≤way nd l (req r k).node (T.weight s r (part v rest)) tn) :
  locGo nd l s r v rest tn (i + 1)=lessV (locGo nd l s r v rest tn i) (lab nd l s r v rest i + way nd l (req r k).node (T.weight s r (part v rest)) tn):=by
 have hb:=locGo_bd hc rest tn i
 rw [locGo,hk,Option.getD_some]
 unfold noted lessV
 by_cases h:locGo nd l s r v rest tn i=-1∨lab nd l s r v rest i + way nd l (req r k).node (T.weight s r (part v rest)) tn < locGo nd l s r v rest tn i
 ·rw [if_pos ⟨by omega,by omega,h⟩,if_pos (by omega)]
 ·rw [if_neg (fun h9=>h h9.2.2),if_neg (by omega)]
end
end K
set_option maxHeartbeats 4000000 in
theorem less106_any (a b:Int) (w:World):Calls Tryz.prog 206 #[.int .i64 a,.int .i64 b] w fun e w'=>e=.returned (.int .i64 (K.lessV a b))∧w=w':=by
 by_cases h1:a < 0
 ·have c1:decide (a < 0)=true:=decide_eq_true h1
  have HX:=Lib.hid (show K.lessV a b=b by unfold K.lessV;rw [if_pos (.inl h1)])
  go_enter Tryz.func206,Tryz.ntmps206
  go_wp2_with fail
  go_ret
  exact ⟨by rw [HX.out];rfl,rfl⟩
 have c1:decide (a < 0)=false:=decide_eq_false h1
 by_cases h2:0≤b
 ·have c2:decide (0≤b)=true:=decide_eq_true h2
  by_cases h3:b < a
  ·have c3:decide (b < a)=true:=decide_eq_true h3
   have HX:=Lib.hid (show K.lessV a b=b by unfold K.lessV;rw [if_pos (.inr ⟨h2,h3⟩)])
   go_enter Tryz.func206,Tryz.ntmps206
   go_wp2_with fail
   go_ret
   exact ⟨by rw [HX.out];rfl,rfl⟩
  ·have c3:decide (b < a)=false:=decide_eq_false h3
   have HX:=Lib.hid (show K.lessV a b=a by unfold K.lessV;rw [if_neg (by omega)])
   go_enter Tryz.func206,Tryz.ntmps206
   go_wp2_with fail
   go_ret
   exact ⟨by rw [HX.out];rfl,rfl⟩
 ·have c2:decide (0≤b)=false:=decide_eq_false h2
  have HX:=Lib.hid (show K.lessV a b=a by unfold K.lessV;rw [if_neg (by omega)])
  go_enter Tryz.func206,Tryz.ntmps206
  go_wp2_with fail
  go_ret
  exact ⟨by rw [HX.out];rfl,rfl⟩
def readInts (w:World):Value→List Int
 | .slice (some ad) n _=>(List.range n).map fun j=>match w.cell? (ad.add j) with | some (.int _ x)=>x | _=>0
 | _=>[]
theorem readInts_ints {w:World} {A:Option Addr} {n c:Nat} {l:List Int} (h:Ints w A n l):readInts w (.slice A n c)=l:=by
 cases A with
 | none =>
  have h0:n=0:=by
   cases n with
   | zero=>rfl
   | succ n=>obtain ⟨ad,e,_⟩:=h.2.2 (by omega);cases e
  have:=h.1
  rw [h0] at this
  rw [List.length_eq_zero_iff.1 this.symm]
  rfl
 | some ad =>
  apply List.ext_getElem?
  intro k
  unfold readInts
  rw [List.getElem?_map]
  by_cases hk:k < n
  ·obtain ⟨ad',x,e,hx,hc⟩:=h.at_ hk
   injection e with e
   subst e
   rw [List.getElem?_range hk,hx,Option.map_some,hc]
  ·rw [List.getElem?_eq_none (by simpa using hk),List.getElem?_eq_none (by rw [←h.1];omega)]
   rfl
def OI (w:World) (ad:Addr) (n c:Nat) (l:List Int):Prop :=
 n=l.length∧n≤c∧∃ g cur,ad=⟨g,0,none⟩∧w.heap[g]? = some (.cells cur 3 (0,0))∧cur.toList.take n=intCells l
theorem OI.ints {w:World} {ad:Addr} {n c:Nat} {l:List Int} (h:OI w ad n c l):Ints w (some ad) n l:=by
 obtain ⟨h1,h2,g,cur,rfl,h3,h4⟩:=h
 refine ⟨h1,by simp [intCells,h1],fun _=>⟨_,rfl,fun j u hu=>?_⟩⟩
 rw [add_zero_block,cell_of_row w g j cur 3 (0,0) h3]
 rw [←h4,List.getElem?_take] at hu
 split at hu
 ·simpa using hu
 ·cases hu
theorem OI.cell {w:World} {ad:Addr} {n c k:Nat} {l:List Int} {x:Int} (h:OI w ad n c l) (hk:l[k]? = some x):w.cell? (ad.add k)=some (.int .i64 x):=by
 obtain ⟨ad',y,e,hy,hc⟩:=h.ints.at_ (k:=k) (by rw [h.1];exact (List.getElem?_eq_some_iff.1 hk).1)
 injection e with e
 subst e
 rw [hk] at hy
 injection hy with hy
 rw [hy];exact hc
theorem OI.free {w:World} {ad:Addr} {n c:Nat} {l:List Int} (h:OI w ad n c l) (k:Nat):w.frozen? (ad.add k)=false:=by
 obtain ⟨h1,h2,g,cur,rfl,h3,h4⟩:=h
 rw [add_zero_block]
 exact blk_free h3 k
theorem OI.set {w:World} {ad:Addr} {n c:Nat} {l:List Int} (h:OI w ad n c l) (k:Nat) (x:Int):OI (w.setCell (ad.add k) (.int .i64 x)) ad n c (l.set k x):=by
 obtain ⟨h1,h2,g,cur,rfl,h3,h4⟩:=h
 refine ⟨by rw [List.length_set];exact h1,h2,g,_,rfl,by rw [add_zero_block];exact blk_set h3 k _,?_⟩
 rw [Array.toList_setIfInBounds,List.take_set,h4]
 simp [intCells,List.map_set]
theorem OI.below {w w':World} {ad:Addr} {n c:Nat} {l:List Int} (h:OI w ad n c l) (hb:Below w.heap.size w w'):OI w' ad n c l:=by
 obtain ⟨h1,h2,g,cur,e,h3,h4⟩:=h
 exact ⟨h1,h2,g,cur,e,blk_below hb h3,h4⟩
theorem OI.grown {w w':World} {r:Option Nat} {ad:Addr} {n c:Nat} {l:List Int} (h:OI w ad n c l) (hg:w.grownBy w' r) (hne:some ad.block ≠ r):OI w' ad n c l:=by
 obtain ⟨h1,h2,g,cur,rfl,h3,h4⟩:=h
 exact ⟨h1,h2,g,cur,rfl,(hg.block g (Array.getElem?_eq_some_iff.1 h3).1 hne).trans h3,h4⟩
theorem way_read {nd:Int} {l:List Ro} {a k:Int} {tg:Nat} {w:World} {A:Option Addr} {n:Nat} (hI:Ints w A n (K.times nd l a k)) (hne:K.netErr nd l=0) (ha:0≤a∧a < nd) (htg:(tg:Int) < nd) :
  ∃ ad,A=some ad∧w.cell? (ad.add tg)=some (.int .i64 (K.way nd l a k (tg:Int)))∧(tg:Int) < (n:Int):=by
 have hn:n=nd.toNat:=by rw [hI.1];exact K.times_len hne ha
 have hdt:tg < n:=by omega
 obtain ⟨ad,y,rfl,hy,cy⟩:=hI.at_ hdt
 refine ⟨ad,rfl,?_,by omega⟩
 rw [cy]
 unfold K.way G.at_
 rw [Int.toNat_natCast,hy]
 rfl
set_option maxRecDepth 100000 in
set_option maxHeartbeats 16000000 in
theorem arrival_any (x:C) (V:Option Addr) (vn vc:Nat) (v:List Int) (A:Option Addr) (tn tc:Nat) (ts:List Int) (m tg:Nat) (w:World) (hok:K.ok31 x.nd x.l x.s x.r v=true) (hx:At w x) (hV:Ints w V vn v) (hT:Ints w A tn ts)
  (hts:∀ i,i < vn→∃ y,ts[m * 6 + i]? = some y∧(m.testBit i=true→y=K.lab x.nd x.l x.s x.r v m i)) (hm:m < 64) (hto:(tg:Int) < x.nd) :
  Calls Tryz.prog 184 #[.agg #[.int .i64 x.nd,.slice x.A x.n x.c],.agg #[.int .i64 x.s.day,.int .i64 x.s.depot,.int .i64 x.s.start,.int .i64 x.s.end_,.int .i64 x.s.tare,.slice x.s.A x.s.n x.s.c],.slice x.B x.m x.d,.slice V vn vc,.slice A tn tc,.int .i64 m,.int .i64 tg] w fun e w'=>e=.returned (.int .i64 (K.locF x.nd x.l x.s x.r v m tg))∧Below w.heap.size w w':=by
 obtain ⟨w1,hw1⟩:∃ w1:World,w1=w.alloc (.cells #[.int .i64 x.nd,.slice x.A x.n x.c] 24):=⟨_,rfl⟩
 obtain ⟨w2,hw2⟩:∃ w2:World,w2=w1.alloc (.cells #[.int .i64 x.s.day,.int .i64 x.s.depot,.int .i64 x.s.start,.int .i64 x.s.end_,.int .i64 x.s.tare,.slice x.s.A x.s.n x.s.c] 63):=⟨_,rfl⟩
 have z1:w1.heap.size=w.heap.size + 1:=by rw [hw1];exact World.size_alloc _ _
 have b01:Below w.heap.size w w1:=by rw [hw1];exact (Below.refl _ _).alloc (Nat.le_refl _) _
 have b12:Below w1.heap.size w1 w2:=by rw [hw2];exact (Below.refl _ _).alloc (Nat.le_refl _) _
 have hP:Net w2 w.heap.size x.nd x.A x.n x.c:=by
  have h1:Net w1 w.heap.size x.nd x.A x.n x.c:=by rw [hw1];exact Net.new _ _ _ _ _
  exact h1.below b12
 have hS:Shf w2 (w.heap.size + 1) x.s:=by rw [←z1,hw2];exact Shf.new _ _
 have hb:=bel b01 b12
 have HOK:=Lib.hid hok
 have HC:=Lib.hid (K.case31 hok)
 have HVN:=Lib.hid hV.1
 have hv6:vn≤6:=by rw [hV.1];exact (K.ok31_parts hok).2.2.2.2.1
 obtain ⟨hne,hck,hdp,-,-,-⟩:=K.ok31_parts hok
 obtain ⟨-,⟨d0,-⟩,st0,st1,en1⟩:=K.check_parts hck
 have HNE:=Lib.hid hne
 have HTS:=Lib.hid hts
 clear hne hck hok hts
 go_enter Tryz.func184,Tryz.ntmps184
 go_wp2_with fail
 rw [←hw1,←hw2]
 clear hw1 hw2 z1 b01 b12
 have hmk:∀ w',Below w2.heap.size w2 w'→(fun w':World=>Below w2.heap.size w2 w'∧w'.cell? ⟨w.heap.size + 1,0,none⟩=some (.int .i64 x.s.day)∧w'.cell? ⟨w.heap.size + 1,1,none⟩=some (.int .i64 x.s.depot)∧w'.cell? ⟨w.heap.size + 1,2,none⟩=some (.int .i64 x.s.start)∧w'.cell? ⟨w.heap.size + 1,3,none⟩=some (.int .i64 x.s.end_)∧w'.cell? ⟨w.heap.size + 1,4,none⟩=some (.int .i64 x.s.tare)∧w'.cell? ⟨w.heap.size + 1,5,none⟩=some (.slice x.s.A x.s.n x.s.c)) w':=fun w' h=>⟨h,(hS.below h).cells⟩
 have S0:=hmk _ (Below.refl _ _)
 have hSd:∀ w',(fun w':World=>Below w2.heap.size w2 w'∧w'.cell? ⟨w.heap.size + 1,0,none⟩=some (.int .i64 x.s.day)∧w'.cell? ⟨w.heap.size + 1,1,none⟩=some (.int .i64 x.s.depot)∧w'.cell? ⟨w.heap.size + 1,2,none⟩=some (.int .i64 x.s.start)∧w'.cell? ⟨w.heap.size + 1,3,none⟩=some (.int .i64 x.s.end_)∧w'.cell? ⟨w.heap.size + 1,4,none⟩=some (.int .i64 x.s.tare)∧w'.cell? ⟨w.heap.size + 1,5,none⟩=some (.slice x.s.A x.s.n x.s.c)) w'→(fun w':World=>Below w2.heap.size w2 w'∧w'.cell? ⟨w.heap.size + 1,0,none⟩=some (.int .i64 x.s.day)∧w'.cell? ⟨w.heap.size + 1,1,none⟩=some (.int .i64 x.s.depot)∧w'.cell? ⟨w.heap.size + 1,2,none⟩=some (.int .i64 x.s.start)∧w'.cell? ⟨w.heap.size + 1,3,none⟩=some (.int .i64 x.s.end_)∧w'.cell? ⟨w.heap.size + 1,4,none⟩=some (.int .i64 x.s.tare)∧w'.cell? ⟨w.heap.size + 1,5,none⟩=some (.slice x.s.A x.s.n x.s.c)) w'.drew:=fun w' h=>hmk _ h.1.drew
 have hVx:∀ w',Below w2.heap.size w2 w'→Ints w' V vn v:=fun w' h=>(hV.below hb).below h
 have hAr:∀ w',Below w2.heap.size w2 w'→Ints w' x.s.A x.s.n x.s.l:=fun w' h=>((hx.below hb).below h).rooms
 have hAq:∀ w',Below w2.heap.size w2 w'→Reqs w' x.B x.m x.r:=fun w' h=>((hx.below hb).below h).reqs
 have hr256:m < 256:=by omega
 have hv8:vn≤8:=by omega
 have hpl:(K.part v m).length≤1000000000:=by have h1:=K.part_len v m;rw [←HVN.out] at h1;omega
 go_region_held3 (fun w':World=>Below w2.heap.size w2 w'∧w'.cell? ⟨w.heap.size + 1,0,none⟩=some (.int .i64 x.s.day)∧w'.cell? ⟨w.heap.size + 1,1,none⟩=some (.int .i64 x.s.depot)∧w'.cell? ⟨w.heap.size + 1,2,none⟩=some (.int .i64 x.s.start)∧w'.cell? ⟨w.heap.size + 1,3,none⟩=some (.int .i64 x.s.end_)∧w'.cell? ⟨w.heap.size + 1,4,none⟩=some (.int .i64 x.s.tare)∧w'.cell? ⟨w.heap.size + 1,5,none⟩=some (.slice x.s.A x.s.n x.s.c))
  (first | assumption | exact S0 | exact hSd _ (by assumption))
  (first
   | (go_at_call 183;refine (part31_any V vn vc v m _ (hVx _ (And.left (by assumption))) hv8 hr256).mono ?_;rintro e wb ⟨⟨RA,rn,rc,rfl,hR⟩,bb⟩;have S1:=hmk _ (bel (And.left (by assumption)) bb);have hrn:rn≤1000000000:=by (rw [hR.1];exact hpl))
   | (go_at_call 146;refine (rweight_any x.s x.B x.m x.d x.r RA rn rc (K.part v m) _ (hAr _ S1.1) hx.b2 (hAq _ S1.1) hx.b3 hx.b4 hR hrn).mono ?_;rintro e wc ⟨rfl,bc⟩;have S2:=hmk _ (bel S1.1 bc))
   | fail)
 obtain ⟨wt,hwt⟩:∃ wt,wt=T.weight x.s x.r (K.part v m):=⟨_,rfl⟩
 rw [←hwt]
 have HWT:=Lib.hid hwt
 have b2c:=S2.1
 have hP:=hP.below b2c
 have hS:=hS.below b2c
 have hb:=bel hb b2c
 clear S0 S1 S2 hSd hmk hVx hAr hAq hR hrn hpl hwt bb bc b2c hr256 hv8
 have p0:=hP.c0
 have p1:=hP.c1
 obtain ⟨s0,s1,s2,s3,s4,s5⟩:=hS.cells
 have k3:(0:Int)≤(tg:Int):=by omega
 by_cases hm0:m=0
 ·subst hm0
  have hF:=K.locF_zero (nd:=x.nd) (l:=x.l) (s:=x.s) (r:=x.r) (v:=v) (tg:Int)
  rw [←HWT.out] at hF
  go_wp2_with fail
  refine (rtimes_any x.nd x.A x.n x.c x.l x.s.depot wt _ (hx.below hb).net hx.b1).mono ?_
  rintro e wy ⟨⟨TA,yn,yc,rfl,hTI⟩,bwy⟩
  obtain ⟨y,hway⟩:∃ y,y=K.way x.nd x.l x.s.depot wt (tg:Int):=⟨_,rfl⟩
  obtain ⟨ady,rfl,cy,j4⟩:=way_read hTI HNE.out ⟨d0,hdp⟩ hto
  have hyb:=K.way_bd x.nd x.l x.s.depot wt (tg:Int)
  rw [←hway] at hyb hF cy
  have s2:=((hS.below bwy).cells).2.2.1
  clear hway hTI p0 p1 s0 s1 s3 s4 s5
  have hsm:IntKind.i64.wrap (x.s.start + y)=x.s.start + y:=IntWalk.i64_in _ (by omega)
  have hsm2:wrap64 (x.s.start + y)=x.s.start + y:=by rw [←IntWalk.i64_left];exact hsm
  by_cases hy0:y < 0
  ·have c1:decide (y < 0)=true:=decide_eq_true hy0
   rw [if_pos hy0] at hF
   have HF:=Lib.hid hF
   clear hF
   go_wp2_with fail
   go_ret
   exact ⟨by rw [HF.out];rfl,bel hb bwy⟩
  ·have c1:decide (y < 0)=false:=decide_eq_false hy0
   rw [if_neg hy0,if_neg (by omega)] at hF
   have HF:=Lib.hid hF
   clear hF
   go_wp2_with fail
   go_ret
   exact ⟨by rw [HF.out];rfl,bel hb bwy⟩
 ·have hm0b:((m:Int) == 0)=false:=by simp;exact hm0
  have hm0n:(m == 0)=false:=by simp;exact hm0
  go_wp2_with fail
  have HP:=Lib.hid hP
  have HS:=Lib.hid hS
  have HB:=Lib.hid hb
  clear hb hP hS p0 p1 s0 s1 s2 s3 s4 s5
  go_loopw [17,18] (fun v17 v18 wr=>∃ (i:Nat) (f:Int),v17=.int .i64 f∧v18=.int .i64 i∧i≤vn∧Hid (f=K.locGo x.nd x.l x.s x.r v m (tg:Int) i)∧Below wc.heap.size wc wr) (fun _ v18 _=>vn - (intOf v18).toNat)
  case atStart=>exact ⟨0,-1,rfl,rfl,by omega,rfl,Below.refl _ _⟩
  case round =>
   obtain ⟨i,f,rfl,rfl,hi,hf,hbr⟩:=hrel
   have hb:=bel HB.out hbr
   have hfb:=K.locGo_bd HC.out m (tg:Int) i
   rw [←hf.out] at hfb
   by_cases hlt:i < vn
   ·obtain ⟨z,hz,hzi⟩:=HTS.out i hlt
    have HZI:=Lib.hid hzi
    clear hzi
    obtain ⟨m6,hm6⟩:∃ m6:Nat,m6=m * 6:=⟨_,rfl⟩
    obtain ⟨j,hj⟩:∃ j:Nat,j=m6 + i:=⟨_,rfl⟩
    rw [←hm6,←hj] at hz
    have hmt:j < tn:=by rw [hT.1];exact (List.getElem?_eq_some_iff.1 hz).1
    obtain ⟨adt,z2,rfl,hz2,cz⟩:=(hT.below hb).at_ hmt
    rw [hz] at hz2
    injection hz2 with hz2
    subst hz2
    have kw1:IntKind.i64.wrap ((m:Int) * 6)=(m6:Int):=by rw [IntWalk.i64_in _ (by omega)];omega
    have kw3:IntKind.i64.wrap ((m6:Int) + (i:Int))=(j:Int):=by rw [IntWalk.i64_in _ (by omega)];omega
    have kk0:(0:Int)≤(j:Int):=by omega
    have kk1:(j:Int) < (tn:Int):=by omega
    have kk2:(0:Int)≤(i:Int):=by omega
    have kk3:(i:Int) < (vn:Int):=by omega
    have hi8:i < 8:=by omega
    have hm256:m < 256:=by omega
    have hlt':decide (i < vn)=true:=decide_eq_true hlt
    have hlti:decide ((i:Int) < (vn:Int))=true:=decide_eq_true kk3
    clear hz hm6 hj hmt
    go_upto_region 12 with fail
    clear kw1 kw3 kk0 kk1 cz
    cases hbit:m.testBit i
    ·have hb1:bits BinOp.and IntKind.i64 ((m:Int) / 2 ^ i) 1=0:=by rw [bit_at hm256 hi8,hbit];rfl
     have HF:=Lib.hid (show f=K.locGo x.nd x.l x.s x.r v m (tg:Int) (i + 1) by rw [K.locGo_skip (K.lab_no hbit)];exact hf.out)
     clear hf
     go_wp2_with fail
     clear hb1
     go_roundw
     case rel=>(go_light;exact ⟨i + 1,f,rfl,by go_num,hlt,HF.out,hbr⟩)
     case measure=>(go_light;simp [intOf] <;> omega)
    ·have hb1:bits BinOp.and IntKind.i64 ((m:Int) / 2 ^ i) 1=1:=by rw [bit_at hm256 hi8,hbit];rfl
     have hzl:=HZI.out hbit
     have hlb:=K.lab_bd (nd:=x.nd) (l:=x.l) (s:=x.s) (r:=x.r) HC.out m i
     rw [←hzl] at hlb
     have HZL:=Lib.hid hzl
     clear hzl
     by_cases hz0:0≤z
     ·have c1:decide (0≤z)=true:=decide_eq_true hz0
      go_upto_region 13 with fail
      clear hb1 hbit
      obtain ⟨adv,k,rfl,hki,ci⟩:=(hV.below hb).at_ hlt
      obtain ⟨hk0,hk1,hkn⟩:=K.setGo_nodes _ _ (K.ok31_parts HOK.out).2.2.2.2.2 _ (List.mem_of_getElem? hki)
      obtain ⟨j,rfl⟩:∃ j:Nat,k=(j:Int):=⟨k.toNat,by omega⟩
      have hjm:j < x.m:=by rw [hx.reqs.1];omega
      obtain ⟨adq,q,hqB,hgq,-,e0,-⟩:=((hx.below hb).reqs).at_ hjm
      have HQB:=Lib.hid hqB
      have HKI:=Lib.hid hki
      have hrq:=K.req_get hgq
      rw [hrq] at hkn
      have HRQ:=Lib.hid hrq
      have hqn:0≤q.node:=by
       have h1:=(K.ok31_parts HOK.out).2.2.2.1 q (List.mem_of_getElem? hgq)
       exact (K.right_req h1).1.1
      have hP:=HP.out.below hbr
      have p0:=hP.c0
      have p1:=hP.c1
      have hRd:∀ w',Below wr.heap.size wr w'→Roads w' x.A x.n x.l:=fun w' h=>Lst.below ((hx.below hb).net) h
      obtain ⟨y,hway⟩:∃ y,y=K.way x.nd x.l q.node wt (tg:Int):=⟨_,rfl⟩
      have hyb:=K.way_bd x.nd x.l q.node wt (tg:Int)
      rw [←hway] at hyb
      have HWY:=Lib.hid hway
      have j1:(j:Int) < (x.m:Int):=by omega
      have j2:(0:Int)≤(j:Int):=by omega
      rw [hqB]
      clear hP hki hgq hqB hrq hway hjm hk0 hk1
      go_cut [20] from 65 to 78 (fun v20 wx=>v20=.int .i64 y∧Below wc.heap.size wc wx)
      case first =>
       go_region_with (first | (go_at_call 147;refine (rtimes_any x.nd x.A x.n x.c x.l q.node wt _ (hRd _ (Below.refl _ _).drew) hx.b1).mono ?_;rintro e wy ⟨⟨TA,yn,yc,rfl,hTI⟩,bwy⟩;obtain ⟨ady,rfl,cy,j4⟩:=way_read hTI HNE.out ⟨hqn,hkn⟩ hto;rw [←HWY.out] at cy) | fail)
       all_goals (clear p0 p1 e0 ci;go_wp2_with fail;go_meet)
       all_goals (exact ⟨rfl,bel hbr (bel (Below.refl _ _).drew bwy)⟩)
      case rest =>
       obtain ⟨rfl,hbx⟩:=hcut
       clear p0 p1 hRd e0 ci j1 j2
       have hb:=bel HB.out hbx
       by_cases hy0:0≤y
       ·have c2:decide (0≤y)=true:=decide_eq_true hy0
        obtain ⟨sm,hsm⟩:∃ sm,sm=z + y:=⟨_,rfl⟩
        have ksm:IntKind.i64.wrap (z + y)=sm:=by rw [IntWalk.i64_in _ (by omega)];exact hsm.symm
        obtain ⟨g,hg⟩:∃ g,g=K.lessV f sm:=⟨_,rfl⟩
        have HF:=Lib.hid (show g=K.locGo x.nd x.l x.s x.r v m (tg:Int) (i + 1) by
         rw [K.locGo_less HC.out HKI.out (by rw [←HZL.out];exact hz0) (by rw [HRQ.out,←HWT.out,←HWY.out];exact hy0),←hf.out,←HZL.out,HRQ.out,←HWT.out,←HWY.out,←hsm]
         exact hg)
        clear hf hsm
        go_wp2_with fail
        refine (less106_any f sm _).mono ?_
        rw [←hg]
        rintro e w8 ⟨rfl,rfl⟩
        clear ksm hg
        go_wp2_with fail
        rw [←HQB.out]
        go_roundw
        case rel=>(go_light;exact ⟨i + 1,g,rfl,by go_num,hlt,HF.out,hbx⟩)
        case measure=>(go_light;simp [intOf] <;> omega)
       ·have c2:decide (0≤y)=false:=decide_eq_false hy0
        have HF:=Lib.hid (show f=K.locGo x.nd x.l x.s x.r v m (tg:Int) (i + 1) by
         rw [K.locGo_none HKI.out (by rw [HRQ.out,←HWT.out,←HWY.out];omega)]
         exact hf.out)
        clear hf
        go_wp2_with fail
        rw [←HQB.out]
        go_roundw
        case rel=>(go_light;exact ⟨_,_,⟨i + 1,f,rfl,by go_num,hlt,HF.out⟩,rfl,rfl,rfl,rfl⟩)
        case measure=>(go_light;simp [intOf] <;> omega)
     ·have c1:decide (0≤z)=false:=decide_eq_false hz0
      have HF:=Lib.hid (show f=K.locGo x.nd x.l x.s x.r v m (tg:Int) (i + 1) by rw [K.locGo_skip (by rw [←HZL.out];omega)];exact hf.out)
      clear hf
      go_wp2_with fail
      clear hb1
      go_roundw
      case rel=>(go_light;exact ⟨i + 1,f,rfl,by go_num,hlt,HF.out,hbr⟩)
      case measure=>(go_light;simp [intOf] <;> omega)
   ·have HF:=Lib.hid (show K.locF x.nd x.l x.s x.r v m (tg:Int)=f by rw [K.locF_pos hm0,←HVN.out,show vn=i by omega];exact hf.out.symm)
    clear hf
    go_wp2_with fail
    go_ret
    exact ⟨by rw [HF.out];rfl,hb⟩
theorem elem_at {nd:Int} {l:List Ro} {s:S} {r:List Q} {v:List Int} (hok:K.ok31 nd l s r v=true) {i:Nat} {k:Int} (h:v[i]? = some k) :
  ∃ (d dn:Nat) (q:Q),k=(d:Int)∧d < r.length∧r[d]? = some q∧K.req r k=q∧q.node=(dn:Int)∧(dn:Int) < nd∧0≤q.service∧q.service≤1000000:=by
 obtain ⟨-,-,-,hrq,-,hgo⟩:=K.ok31_parts hok
 obtain ⟨h0,h1,h3⟩:=K.setGo_nodes _ _ hgo _ (List.mem_of_getElem? h)
 obtain ⟨d,hd⟩:∃ d:Nat,k=(d:Int):=⟨k.toNat,by omega⟩
 subst hd
 have hq:r[d]? = some (r[d]'(by omega)):=List.getElem?_eq_getElem (by omega)
 obtain ⟨hn,hs,-⟩:=K.right_req (hrq _ (List.mem_of_getElem? hq))
 rw [K.req_get hq] at h3
 exact ⟨d,(r[d]'(by omega)).node.toNat,_,rfl,by omega,hq,K.req_get hq,by omega,by omega,hs.1,hs.2⟩
set_option maxRecDepth 100000 in
set_option maxHeartbeats 16000000 in
theorem label64_any (x:C) (V:Option Addr) (vn vc:Nat) (v:List Int) (A:Option Addr) (tn tc:Nat) (ts:List Int) (m i P rest:Nat) (w:World) (hok:K.ok31 x.nd x.l x.s x.r v=true) (hx:At w x) (hV:Ints w V vn v) (hT:Ints w A tn ts)
  (hPP:P=2 ^ i) (hrest:rest=m - P) (hPm:P≤m) (hm:m < 64) (hml:m < 2 ^ v.length) (hi:i < vn) (hbit:m.testBit i=true)
  (hts:∀ j,j < vn→∃ y,ts[rest * 6 + j]? = some y∧(rest.testBit j=true→y=K.lab x.nd x.l x.s x.r v rest j)) :
  Calls Tryz.prog 133 #[.agg #[.int .i64 x.nd,.slice x.A x.n x.c],.agg #[.int .i64 x.s.day,.int .i64 x.s.depot,.int .i64 x.s.start,.int .i64 x.s.end_,.int .i64 x.s.tare,.slice x.s.A x.s.n x.s.c],.slice x.B x.m x.d,.slice V vn vc,.slice A tn tc,.int .i64 m,.int .i64 i] w fun e w'=>e=.returned (.int .i64 (K.lab x.nd x.l x.s x.r v m i))∧Below w.heap.size w w':=by
 have HVN:=Lib.hid hV.1
 have hv6:vn≤6:=by rw [hV.1];exact (K.ok31_parts hok).2.2.2.2.1
 have hi8:i < 8:=by omega
 have HW3:=Lib.hid (show IntKind.i64.wrap ((2:Int) ^ i)=(P:Int) by rw [wrap_pow hi8,hPP];simp)
 obtain ⟨adv,k,rfl,hk,ck⟩:=hV.at_ hi
 have hlab:=K.lab_local (nd:=x.nd) (l:=x.l) (s:=x.s) (r:=x.r) (K.case31 hok) hml hk hbit
 rw [←hPP,←hrest] at hlab
 clear hPP
 obtain ⟨d,dn,q,hkd,hd,hdq,hreq,hdn,hdn1,qs0,qs1⟩:=elem_at hok hk
 rw [hreq,hdn,←K.refLabel_eq] at hlab
 obtain ⟨F,hF⟩:∃ F,F=K.locF x.nd x.l x.s x.r v rest (dn:Int):=⟨_,rfl⟩
 have HF:=Lib.hid hF
 have hFb:=K.locF_bd (nd:=x.nd) (l:=x.l) (s:=x.s) (r:=x.r) (v:=v) (K.case31 hok) (by obtain ⟨-,-,-,st1,en1⟩:=K.check_parts (K.ok31_parts hok).2.1;omega) rest (dn:Int)
 rw [←hF] at hlab hFb
 have HLAB:=Lib.hid hlab
 subst hkd
 have hdm:d < x.m:=by rw [hx.reqs.1];exact hd
 obtain ⟨adq,q2,hqB,hgq,hwq,e0,e1,e2,e3,e4,e5,e6⟩:=hx.reqs.at_ hdm
 rw [hdq] at hgq
 injection hgq with hgq
 subst hgq
 rw [hdn] at e0
 obtain ⟨w1,hw1⟩:∃ w1:World,w1=w.alloc (.cells #[.int .i64 x.nd,.slice x.A x.n x.c] 24):=⟨_,rfl⟩
 obtain ⟨w2,hw2⟩:∃ w2:World,w2=w1.alloc (.cells #[.int .i64 x.s.day,.int .i64 x.s.depot,.int .i64 x.s.start,.int .i64 x.s.end_,.int .i64 x.s.tare,.slice x.s.A x.s.n x.s.c] 63):=⟨_,rfl⟩
 obtain ⟨w3,hw3⟩:∃ w3:World,w3=w2.alloc (.cells #[.int .i64 (dn:Int),.int .i64 q.room,.int .i64 q.kilos,.int .i64 q.service,.int .i64 q.frm,.int .i64 q.by_,.slice q.A q.n q.c] 47):=⟨_,rfl⟩
 have z1:w1.heap.size=w.heap.size + 1:=by rw [hw1];exact World.size_alloc _ _
 have z2:w2.heap.size=w.heap.size + 1 + 1:=by rw [hw2,World.size_alloc,z1]
 have b01:Below w.heap.size w w1:=by rw [hw1];exact (Below.refl _ _).alloc (Nat.le_refl _) _
 have b12:Below w1.heap.size w1 w2:=by rw [hw2];exact (Below.refl _ _).alloc (Nat.le_refl _) _
 have b23:Below w2.heap.size w2 w3:=by rw [hw3];exact (Below.refl _ _).alloc (Nat.le_refl _) _
 have hP:Net w3 w.heap.size x.nd x.A x.n x.c:=by
  have h1:Net w1 w.heap.size x.nd x.A x.n x.c:=by rw [hw1];exact Net.new _ _ _ _ _
  exact h1.below (bel b12 b23)
 have hS:Shf w3 (w.heap.size + 1) x.s:=by
  have h1:Shf w2 (w.heap.size + 1) x.s:=by rw [←z1,hw2];exact Shf.new _ _
  exact h1.below b23
 have hQ3:w3.heap[w.heap.size + 1 + 1]? = some (.cells #[.int .i64 (dn:Int),.int .i64 q.room,.int .i64 q.kilos,.int .i64 q.service,.int .i64 q.frm,.int .i64 q.by_,.slice q.A q.n q.c] 47 (0,0)):=by rw [←z2,hw3];exact heap_alloc_new _ _
 have b02:=bel b01 b12
 have hb:=bel b02 b23
 have ck:=(b02.cell (cell_lt ck)).trans ck
 have e0:=(b02.cell (cell_lt e0)).trans e0
 have e1:=(b02.cell (cell_lt e1)).trans e1
 have e2:=(b02.cell (cell_lt e2)).trans e2
 have e3:=(b02.cell (cell_lt e3)).trans e3
 have e4:=(b02.cell (cell_lt e4)).trans e4
 have e5:=(b02.cell (cell_lt e5)).trans e5
 have e6:=(b02.cell (cell_lt e6)).trans e6
 rw [hw2,hw1] at ck e0 e1 e2 e3 e4 e5 e6
 have HOK:=Lib.hid hok
 have HTS:=Lib.hid hts
 have HWQ:=Lib.hid hwq
 have HQN:=Lib.hid (hx.b4 q (List.mem_of_getElem? hdq))
 have HQB:=Lib.hid hqB
 have HPR:=Lib.hid (show IntKind.i64.wrap ((m:Int) - (P:Int))=(rest:Int) by rw [IntWalk.i64_in _ (by omega)];omega)
 have hr64:rest < 64:=by omega
 have kk3:(0:Int)≤(i:Int):=by omega
 have kk4:(i:Int) < (vn:Int):=by omega
 have kk5:(0:Int)≤(d:Int):=by omega
 have kk6:(d:Int) < (x.m:Int):=by omega
 rw [hqB]
 clear hok hts hwq hk hlab hd hdq hreq hdn hF hqB hrest hPm hml hbit hdm b01 b12 b02 z1 z2
 go_enter Tryz.func133,Tryz.ntmps133
 go_upto_region 2 with fail
 rw [←hw1,←hw2,←hw3]
 clear hw1 hw2 hw3 ck e0 e1 e2 e3 e4 e5 e6 kk5 kk6
 have hmk:∀ w',Below w3.heap.size w3 w'→(fun w':World=>Below w3.heap.size w3 w'∧w'.cell? ⟨w.heap.size,0,none⟩=some (.int .i64 x.nd)∧w'.cell? ⟨w.heap.size,1,none⟩=some (.slice x.A x.n x.c)∧w'.cell? ⟨w.heap.size + 1,0,none⟩=some (.int .i64 x.s.day)∧w'.cell? ⟨w.heap.size + 1,1,none⟩=some (.int .i64 x.s.depot)∧w'.cell? ⟨w.heap.size + 1,2,none⟩=some (.int .i64 x.s.start)∧w'.cell? ⟨w.heap.size + 1,3,none⟩=some (.int .i64 x.s.end_)∧w'.cell? ⟨w.heap.size + 1,4,none⟩=some (.int .i64 x.s.tare)∧w'.cell? ⟨w.heap.size + 1,5,none⟩=some (.slice x.s.A x.s.n x.s.c)∧w'.cell? ⟨w.heap.size + 1 + 1,0,none⟩=some (.int .i64 (dn:Int))∧w'.cell? ⟨w.heap.size + 1 + 1,1,none⟩=some (.int .i64 q.room)∧w'.cell? ⟨w.heap.size + 1 + 1,2,none⟩=some (.int .i64 q.kilos)∧w'.cell? ⟨w.heap.size + 1 + 1,3,none⟩=some (.int .i64 q.service)∧w'.cell? ⟨w.heap.size + 1 + 1,4,none⟩=some (.int .i64 q.frm)∧w'.cell? ⟨w.heap.size + 1 + 1,5,none⟩=some (.int .i64 q.by_)∧w'.cell? ⟨w.heap.size + 1 + 1,6,none⟩=some (.slice q.A q.n q.c)) w':=fun w' h=>⟨h,(hP.below h).c0,(hP.below h).c1,(hS.below h).cells.1,(hS.below h).cells.2.1,(hS.below h).cells.2.2.1,(hS.below h).cells.2.2.2.1,(hS.below h).cells.2.2.2.2.1,(hS.below h).cells.2.2.2.2.2,blk_cell (blk_below h hQ3) 0 _ rfl,blk_cell (blk_below h hQ3) 1 _ rfl,blk_cell (blk_below h hQ3) 2 _ rfl,blk_cell (blk_below h hQ3) 3 _ rfl,blk_cell (blk_below h hQ3) 4 _ rfl,blk_cell (blk_below h hQ3) 5 _ rfl,blk_cell (blk_below h hQ3) 6 _ rfl⟩
 obtain ⟨-,p0,p1,s0,s1,s2,s3,s4,s5,q0,q1,q2,q3,q4,q5,q6⟩:=hmk _ (Below.refl _ _)
 by_cases h1:x.s.day < q.frm
 ·have c1:decide (x.s.day < q.frm)=true:=decide_eq_true h1
  have HX:=Lib.hid (show K.lab x.nd x.l x.s x.r v m i=-1 by rw [HLAB.out];unfold K.refLabel;rw [if_pos (.inl h1)])
  clear hmk h1
  go_quiet (fail)
  go_wp2_with fail
  go_ret
  exact ⟨by rw [HX.out];rfl,below_drewN hb _⟩
 have c1:decide (x.s.day < q.frm)=false:=decide_eq_false h1
 by_cases h2:q.by_ < x.s.day
 ·have c2:decide (q.by_ < x.s.day)=true:=decide_eq_true h2
  have HX:=Lib.hid (show K.lab x.nd x.l x.s x.r v m i=-1 by rw [HLAB.out];unfold K.refLabel;rw [if_pos (.inr (.inl h2))])
  clear hmk h1 h2
  go_quiet (fail)
  go_wp2_with fail
  go_ret
  exact ⟨by rw [HX.out];rfl,below_drewN hb _⟩
 have c2:decide (q.by_ < x.s.day)=false:=decide_eq_false h2
 clear p0 p1 s0 s1 s2 s3 s4 s5 q0 q1 q2 q3 q4 q5 q6
 have S0:=hmk _ (Below.refl _ _)
 have hSd:∀ w',(fun w':World=>Below w3.heap.size w3 w'∧w'.cell? ⟨w.heap.size,0,none⟩=some (.int .i64 x.nd)∧w'.cell? ⟨w.heap.size,1,none⟩=some (.slice x.A x.n x.c)∧w'.cell? ⟨w.heap.size + 1,0,none⟩=some (.int .i64 x.s.day)∧w'.cell? ⟨w.heap.size + 1,1,none⟩=some (.int .i64 x.s.depot)∧w'.cell? ⟨w.heap.size + 1,2,none⟩=some (.int .i64 x.s.start)∧w'.cell? ⟨w.heap.size + 1,3,none⟩=some (.int .i64 x.s.end_)∧w'.cell? ⟨w.heap.size + 1,4,none⟩=some (.int .i64 x.s.tare)∧w'.cell? ⟨w.heap.size + 1,5,none⟩=some (.slice x.s.A x.s.n x.s.c)∧w'.cell? ⟨w.heap.size + 1 + 1,0,none⟩=some (.int .i64 (dn:Int))∧w'.cell? ⟨w.heap.size + 1 + 1,1,none⟩=some (.int .i64 q.room)∧w'.cell? ⟨w.heap.size + 1 + 1,2,none⟩=some (.int .i64 q.kilos)∧w'.cell? ⟨w.heap.size + 1 + 1,3,none⟩=some (.int .i64 q.service)∧w'.cell? ⟨w.heap.size + 1 + 1,4,none⟩=some (.int .i64 q.frm)∧w'.cell? ⟨w.heap.size + 1 + 1,5,none⟩=some (.int .i64 q.by_)∧w'.cell? ⟨w.heap.size + 1 + 1,6,none⟩=some (.slice q.A q.n q.c)) w'→(fun w':World=>Below w3.heap.size w3 w'∧w'.cell? ⟨w.heap.size,0,none⟩=some (.int .i64 x.nd)∧w'.cell? ⟨w.heap.size,1,none⟩=some (.slice x.A x.n x.c)∧w'.cell? ⟨w.heap.size + 1,0,none⟩=some (.int .i64 x.s.day)∧w'.cell? ⟨w.heap.size + 1,1,none⟩=some (.int .i64 x.s.depot)∧w'.cell? ⟨w.heap.size + 1,2,none⟩=some (.int .i64 x.s.start)∧w'.cell? ⟨w.heap.size + 1,3,none⟩=some (.int .i64 x.s.end_)∧w'.cell? ⟨w.heap.size + 1,4,none⟩=some (.int .i64 x.s.tare)∧w'.cell? ⟨w.heap.size + 1,5,none⟩=some (.slice x.s.A x.s.n x.s.c)∧w'.cell? ⟨w.heap.size + 1 + 1,0,none⟩=some (.int .i64 (dn:Int))∧w'.cell? ⟨w.heap.size + 1 + 1,1,none⟩=some (.int .i64 q.room)∧w'.cell? ⟨w.heap.size + 1 + 1,2,none⟩=some (.int .i64 q.kilos)∧w'.cell? ⟨w.heap.size + 1 + 1,3,none⟩=some (.int .i64 q.service)∧w'.cell? ⟨w.heap.size + 1 + 1,4,none⟩=some (.int .i64 q.frm)∧w'.cell? ⟨w.heap.size + 1 + 1,5,none⟩=some (.int .i64 q.by_)∧w'.cell? ⟨w.heap.size + 1 + 1,6,none⟩=some (.slice q.A q.n q.c)) w'.drew:=fun w' h=>hmk _ h.1.drew
 have hVx:∀ w',Below w3.heap.size w3 w'→Ints w' (some adv) vn v:=fun w' h=>(hV.below hb).below h
 have hXx:∀ w',Below w3.heap.size w3 w'→At w' x:=fun w' h=>(hx.below hb).below h
 have hAr:∀ w',Below w3.heap.size w3 w'→Ints w' x.s.A x.s.n x.s.l:=fun w' h=>(hXx w' h).rooms
 have hAq:∀ w',Below w3.heap.size w3 w'→Reqs w' (some adq) x.m x.r:=fun w' h=>by rw [←HQB.out];exact (hXx w' h).reqs
 have hm256:m < 256:=by omega
 have hv8:vn≤8:=by omega
 have hpl:(K.part v m).length≤1000000000:=by have h1:=K.part_len v m;rw [←HVN.out] at h1;omega
 go_region_held3 (fun w':World=>Below w3.heap.size w3 w'∧w'.cell? ⟨w.heap.size,0,none⟩=some (.int .i64 x.nd)∧w'.cell? ⟨w.heap.size,1,none⟩=some (.slice x.A x.n x.c)∧w'.cell? ⟨w.heap.size + 1,0,none⟩=some (.int .i64 x.s.day)∧w'.cell? ⟨w.heap.size + 1,1,none⟩=some (.int .i64 x.s.depot)∧w'.cell? ⟨w.heap.size + 1,2,none⟩=some (.int .i64 x.s.start)∧w'.cell? ⟨w.heap.size + 1,3,none⟩=some (.int .i64 x.s.end_)∧w'.cell? ⟨w.heap.size + 1,4,none⟩=some (.int .i64 x.s.tare)∧w'.cell? ⟨w.heap.size + 1,5,none⟩=some (.slice x.s.A x.s.n x.s.c)∧w'.cell? ⟨w.heap.size + 1 + 1,0,none⟩=some (.int .i64 (dn:Int))∧w'.cell? ⟨w.heap.size + 1 + 1,1,none⟩=some (.int .i64 q.room)∧w'.cell? ⟨w.heap.size + 1 + 1,2,none⟩=some (.int .i64 q.kilos)∧w'.cell? ⟨w.heap.size + 1 + 1,3,none⟩=some (.int .i64 q.service)∧w'.cell? ⟨w.heap.size + 1 + 1,4,none⟩=some (.int .i64 q.frm)∧w'.cell? ⟨w.heap.size + 1 + 1,5,none⟩=some (.int .i64 q.by_)∧w'.cell? ⟨w.heap.size + 1 + 1,6,none⟩=some (.slice q.A q.n q.c))
  (first | assumption | exact S0 | exact hSd _ (by assumption))
  (first
   | (go_at_call 183;refine (part31_any (some adv) vn vc v m _ (hVx _ (And.left (by assumption))) hv8 hm256).mono ?_;rintro e wb ⟨⟨RA,rn,rc,rfl,hR⟩,bb⟩;have S1:=hmk _ (bel (And.left (by assumption)) bb);have hrn:rn≤1000000000:=by (rw [hR.1];exact hpl))
   | (go_at_call 182;refine (rfits29_any x.s (some adq) x.m x.d x.r RA rn rc (K.part v m) _ (hAr _ S1.1) hx.b2 (hAq _ S1.1) hx.b3 hx.b4 hR hrn).mono ?_;rintro e wc ⟨rfl,bc⟩;have S2:=hmk _ (bel S1.1 bc))
   | fail)
 obtain ⟨fb,hfb⟩:∃ fb,fb=T.fits x.s x.r (K.part v m):=⟨_,rfl⟩
 rw [←hfb]
 have b3c:=S2.1
 have HL2:=Lib.hid (show K.lab x.nd x.l x.s x.r v m i=(if fb=false then -1 else if F < 0∨x.s.end_ < F then -1 else if (H.fit q.l F q.service).2=false∨x.s.end_ < (H.fit q.l F q.service).1 + q.service then -1 else (H.fit q.l F q.service).1 + q.service) by
  rw [HLAB.out];unfold K.refLabel;rw [←hfb]
  have g1:¬ x.s.day < q.frm:=by omega
  have g2:¬ q.by_ < x.s.day:=by omega
  simp only [g1,g2,false_or])
 clear S0 S1 S2 hR hrn hpl bb bc hfb hm256 HLAB hSd
 cases fb
 ·have HX:=Lib.hid (show K.lab x.nd x.l x.s x.r v m i=-1 by rw [HL2.out];rfl)
  clear hmk
  go_wp2_with fail
  go_ret
  exact ⟨by rw [HX.out];rfl,bel hb b3c⟩
 have hP3:=HPR.out
 have hw3:=HW3.out
 have hP4:wrap64 ((m:Int) - (P:Int))=(rest:Int):=by rw [←IntWalk.i64_left];exact hP3
 have hw4:wrap64 ((2:Int) ^ i)=(P:Int):=by rw [←IntWalk.i64_left];exact hw3
 go_upto_region 4 with fail
 obtain ⟨-,p0,p1,s0,s1,s2,s3,s4,s5,q0,-⟩:=hmk _ b3c
 have p0:=Beh.cell p0
 have p1:=Beh.cell p1
 have s0:=Beh.cell s0
 have s1:=Beh.cell s1
 have s2:=Beh.cell s2
 have s3:=Beh.cell s3
 have s4:=Beh.cell s4
 have s5:=Beh.cell s5
 have q0:=Beh.cell q0
 have C:∀ j:Beh wc,Calls Tryz.prog 184 #[.agg #[.int .i64 x.nd,.slice x.A x.n x.c],.agg #[.int .i64 x.s.day,.int .i64 x.s.depot,.int .i64 x.s.start,.int .i64 x.s.end_,.int .i64 x.s.tare,.slice x.s.A x.s.n x.s.c],.slice (some adq) x.m x.d,.slice (some adv) vn vc,.slice A tn tc,.int .i64 rest,.int .i64 dn] j.val fun e w'=>e=.returned (.int .i64 F)∧Below j.val.heap.size j.val w':=fun j=>by
  rw [HF.out,←HQB.out]
  exact arrival_any x (some adv) vn vc v A tn tc ts rest dn _ HOK.out (hXx _ (bel b3c j.property)) (hVx _ (bel b3c j.property)) ((hT.below hb).below (bel b3c j.property)) HTS.out hr64 hdn1
 clear hVx hAr hAq hXx
 refine reg_beh (by kernel_rfl) (by kernel_rfl) ?_
 repeat (go_big_quiet_step ((go_at_call 184;exact Beh.calls (C _))))
 refine wpQuiet_nil ?_
 rintro wd ⟨⟨_,bd⟩,rfl⟩
 have b3d:Below w3.heap.size w3 wd:=bel b3c bd
 clear C bd hP3 hP4 hw3 hw4
 clear p0 p1 s0 s1 s2 s3 s4 s5 q0
 obtain ⟨-,p0,p1,s0,s1,s2,s3,s4,s5,q0,q1,q2,q3,q4,q5,q6⟩:=hmk _ b3d
 by_cases h3:F < 0
 ·have c3:decide (F < 0)=true:=decide_eq_true h3
  have HX:=Lib.hid (show K.lab x.nd x.l x.s x.r v m i=-1 by rw [HL2.out,if_neg (by simp),if_pos (.inl h3)])
  clear hmk
  go_wp2_with fail
  go_ret
  exact ⟨by rw [HX.out];rfl,bel hb b3d⟩
 have c3:decide (F < 0)=false:=decide_eq_false h3
 by_cases h4:x.s.end_ < F
 ·have c4:decide (x.s.end_ < F)=true:=decide_eq_true h4
  have HX:=Lib.hid (show K.lab x.nd x.l x.s x.r v m i=-1 by rw [HL2.out,if_neg (by simp),if_pos (.inr h4)])
  clear hmk
  go_wp2_with fail
  go_ret
  exact ⟨by rw [HX.out];rfl,bel hb b3d⟩
 have c4:decide (x.s.end_ < F)=false:=decide_eq_false h4
 have HL3:=Lib.hid (show K.lab x.nd x.l x.s x.r v m i=(if (H.fit q.l F q.service).2=false∨x.s.end_ < (H.fit q.l F q.service).1 + q.service then -1 else (H.fit q.l F q.service).1 + q.service) by
  rw [HL2.out,if_neg (by simp),if_neg (by simp [h3,h4])])
 clear HL2
 go_wp2_with fail
 refine (rfit_any q.A q.n q.c q.l F q.service _ (HWQ.out.below (bel hb b3d)) HQN.out).mono ?_
 obtain ⟨FT,hFT⟩:∃ FT,FT=H.fit q.l F q.service:=⟨_,rfl⟩
 have hfit:FT.2=true→0≤F∧F≤1000000∧F≤FT.1∧FT.1 + q.service≤1000000:=fun h=>by
  rw [hFT] at h ⊢
  obtain ⟨-,z1,-,z2,z3⟩:=H.fit_ok h
  exact ⟨z1.1,z1.2,z2,z3⟩
 have HFIT:=Lib.hid hfit
 have hl3:=HL3.out
 rw [←hFT] at hl3 ⊢
 have HL4:=Lib.hid hl3
 clear hl3 HL3 hfit hFT
 obtain ⟨B,okb⟩:=FT
 rintro e we ⟨rfl,be⟩
 have b3e:=bel b3d be
 clear p0 p1 s0 s1 s2 s3 s4 s5 q0 q1 q2 q3 q4 q5 q6
 obtain ⟨-,p0,p1,s0,s1,s2,s3,s4,s5,q0,q1,q2,q3,q4,q5,q6⟩:=hmk _ b3e
 clear hmk be b3d b3c
 cases okb
 ·have HX:=Lib.hid (show K.lab x.nd x.l x.s x.r v m i=-1 by rw [HL4.out,if_pos (.inl rfl)])
  go_wp2_with fail
  go_ret
  exact ⟨by rw [HX.out];rfl,bel hb b3e⟩
 have hfit:=HFIT.out rfl
 dsimp only at hfit
 have hbs:IntKind.i64.wrap (B + q.service)=B + q.service:=IntWalk.i64_in _ (by omega)
 have hbs2:wrap64 (B + q.service)=B + q.service:=by rw [←IntWalk.i64_left];exact hbs
 clear hfit HFIT
 by_cases h5:x.s.end_ < B + q.service
 ·have c5:decide (x.s.end_ < B + q.service)=true:=decide_eq_true h5
  have HX:=Lib.hid (show K.lab x.nd x.l x.s x.r v m i=-1 by rw [HL4.out,if_pos (.inr h5)])
  go_wp2_with fail
  go_ret
  exact ⟨by rw [HX.out];rfl,bel hb b3e⟩
 ·have c5:decide (x.s.end_ < B + q.service)=false:=decide_eq_false h5
  have HX:=Lib.hid (show K.lab x.nd x.l x.s x.r v m i=B + q.service by rw [HL4.out,if_neg (by simp [h5])])
  go_wp2_with fail
  go_ret
  exact ⟨by rw [HX.out];rfl,bel hb b3e⟩
end Go.Proofs.YtippdjmpkafifaaGreat
