import Derived.Test.YtippdjmpkafifaaGreatCW14
import Derived.Test.YtippdjmpkafifaaGreatCW13
import Derived.Test.YtippdjmpkafifaaGreatCW11
namespace Go.Proofs.YtippdjmpkafifaaGreat
open Go.RowKit
def ShOk (w:World) (v:Value) (L:List S):Prop:=∀ s ∈ L,Ints w s.A s.n s.l∧(0 < s.n→∀ ad,s.A=some ad→v.ownBlock ≠ some ad.block)
theorem ShOk.below {w w':World} {v:Value} {L:List S} (h:ShOk w v L) (hb:Below w.heap.size w w'):ShOk w' v L:=fun s hs=>⟨(h s hs).1.below hb,(h s hs).2⟩
theorem ShOk.grow {w w':World} {v v':Value} {L:List S} (h:ShOk w v L) (hg:w.grownBy w' v.ownBlock) (ha:v'.ownBlock=v.ownBlock∨v'.ownBlock=some w.heap.size):ShOk w' v' L:=fun s hs=>by
 obtain ⟨h1,h3⟩:=h s hs
 refine ⟨h1.grow hg fun h0 ad e e2=>h3 h0 ad e e2.symm,fun h0 ad e e2=>?_⟩
 rcases ha with e3 | e3
 ·rw [e3] at e2;exact h3 h0 ad e e2
 ·rw [e3] at e2
  injection e2 with e2
  have:=h1.lt_of h0 e
  omega
theorem ShOk.snoc {w:World} {v:Value} {L:List S} (h:ShOk w v L) {y:S} (h1:Ints w y.A y.n y.l) (h2:0 < y.n→∀ ad,y.A=some ad→v.ownBlock ≠ some ad.block):ShOk w v (L ++ [y]):=fun s hs=>by
 rcases List.mem_append.1 hs with hs | hs
 ·exact h s hs
 ·rw [List.mem_singleton] at hs
  rw [hs]
  exact ⟨h1,h2⟩
def RetRest (w w':World) (R:List S) (er:Int) (e:Ending):Prop :=
 (∃ A n c L,e=.returned (.tuple #[.slice A n c,.int .i64 er])∧Shifts w' A n L∧L.map S.bare=R.map S.bare)∧Below w.heap.size w w'
theorem retRest_nil {w w':World} {er:Int} (hb:Below w.heap.size w w'):RetRest w w' [] er (.returned (.tuple #[.slice none 0 0,.int .i64 er])) :=
 ⟨⟨none,0,0,[],rfl,⟨⟨rfl,rfl,fun h=>absurd h (by decide)⟩,fun s h=>(by cases h)⟩,rfl⟩,hb⟩
theorem K.checks_nil {nd:Int} {l:List Ro} {ss:List S} {r:List Q}:K.checks nd l ss r [] = if K.pcheck nd l ss r=0 then (if 0 < r.length then 4 else 0) else K.pcheck nd l ss r:=rfl
def K.rest34 (nd:Int) (l:List Ro) (ss:List S) (r:List Q) (lost:List Int):List S:=if K.restE nd l ss r lost=0 then K.restGo lost 0 ss else []
set_option maxRecDepth 100000 in
set_option maxHeartbeats 16000000 in
theorem rest45_any (x:Cs) (LA:Option Addr) (ln lc:Nat) (lost:List Int) (w:World) (hx:CsAt w x) (hL:Ints w LA ln lost) (hln:ln≤1000000000) (hsn:x.sn≤1000000) (hsr:∀ s ∈ x.ss,s.n≤1000000) :
  Calls Tryz.prog 45 #[.agg #[.int .i64 x.nd,.slice x.A x.n x.c,.slice x.SA x.sn x.sc,.slice x.B x.m x.d],.slice LA ln lc] w fun e w'=>RetRest w w' (K.rest34 x.nd x.l x.ss x.r lost) (K.restE x.nd x.l x.ss x.r lost) e:=by
 obtain ⟨w1,hw1⟩:∃ w1:World,w1=w.alloc (.cells #[.int .i64 x.nd,.slice x.A x.n x.c,.slice x.SA x.sn x.sc,.slice x.B x.m x.d] 44):=⟨_,rfl⟩
 obtain ⟨g,hg⟩:∃ g,g=w.heap.size:=⟨_,rfl⟩
 have b1:Below w.heap.size w w1:=by rw [hw1];exact (Below.refl _ _).alloc (Nat.le_refl _) _
 have hN1:BkBlk w1 g x:=by rw [hw1,hg];exact BkBlk.new _ _
 have p2:=blk_cell hN1 2 _ rfl
 have HSN:=Lib.hid hx.shifts.1.1
 have HRN:=Lib.hid hx.reqs.1
 have HSR:=Lib.hid hsr
 clear hsr
 obtain ⟨ER,hER⟩:∃ ER,ER=K.restE x.nd x.l x.ss x.r lost:=⟨_,rfl⟩
 obtain ⟨RR,hRR⟩:∃ RR,RR=K.rest34 x.nd x.l x.ss x.r lost:=⟨_,rfl⟩
 rw [←hER,←hRR]
 have HER:=Lib.hid (show ER=if K.asc33 x.sn (-1) lost=true then K.pcheck x.nd x.l x.ss x.r else 1 by rw [hER,HSN.out];rfl)
 have HRR:=Lib.hid (show RR=if ER=0 then K.restGo lost 0 x.ss else [] by rw [hRR,hER];rfl)
 clear hER hRR
 go_enter Tryz.func45,Tryz.ntmps45
 go_upto_region 1 with fail
 rw [←hw1,←hg]
 clear hw1 hg
 have CR:=rising107_any LA ln lc lost x.sn w1 (hL.below b1) hln (by omega)
 obtain ⟨z,hz⟩:∃ z,z=K.asc33 x.sn (-1) lost:=⟨_,rfl⟩
 rw [←hz] at CR HER
 clear hz
 go_wp2_with fail
 refine CR.mono ?_
 rintro e w2 ⟨rfl,b2⟩
 have hN2:=hN1.below b2
 have hb2:=bel b1 b2
 clear CR p2 b1 b2 hN1
 cases z
 ·have HX:=Lib.hid (show ER=1 from HER.out)
  have HY:=Lib.hid (show RR=[] by rw [HRR.out,HX.out];rfl)
  go_wp2_with fail
  go_ret2
  rw [HX.out,HY.out]
  exact retRest_nil hb2
 have HE2:=Lib.hid (show ER=K.pcheck x.nd x.l x.ss x.r from HER.out)
 have p0:=blk_cell hN2 0 _ rfl
 have p1:=blk_cell hN2 1 _ rfl
 have p2:=blk_cell hN2 2 _ rfl
 have p3:=blk_cell hN2 3 _ rfl
 have CC:=checks32_any x none 0 0 [] w2 (hx.below hb2) ⟨⟨rfl,rfl,fun h=>absurd h (by decide)⟩,fun y h=>(by cases h)⟩ ⟨by decide,fun y h=>(by cases h)⟩
 rw [List.map_nil,K.checks_nil,←HE2.out,←HRN.out] at CC
 clear HER
 go_wp2_with fail
 refine CC.mono ?_
 obtain ⟨ce,hce⟩:∃ ce,ce=(if ER=0 then (if 0 < x.m then 4 else 0) else ER):=⟨_,rfl⟩
 rw [←hce]
 rintro e w3 ⟨rfl,b3⟩
 have HCE:=Lib.hid hce
 have hN3:=hN2.below b3
 have hb3:=bel hb2 b3
 clear CC hce p0 p1 p2 p3 hN2 hb2 b3
 by_cases hE:ER=0
 rotate_left
 ·have HY:=Lib.hid (show RR=[] by rw [HRR.out,if_neg hE])
  have hcE:ce=ER:=by rw [HCE.out,if_neg hE]
  subst hcE
  rcases K.pcheck_cases (nd:=x.nd) (l:=x.l) (ss:=x.ss) (r:=x.r) with e | e | e
  ·exact absurd (HE2.out.trans e) hE
  ·have h1:=HE2.out.trans e
   subst h1
   clear hE e
   go_wp2_with fail
   go_ret2
   rw [HY.out]
   exact retRest_nil hb3
  ·have h1:=HE2.out.trans e
   subst h1
   clear hE e
   go_wp2_with fail
   go_ret2
   rw [HY.out]
   exact retRest_nil hb3
 have HY:=Lib.hid (show RR=K.restGo lost 0 x.ss by rw [HRR.out,if_pos hE])
 subst hE
 have d1:(ce == 1)=false:=by rw [HCE.out,if_pos rfl];split <;> rfl
 have d2:(ce == 6)=false:=by rw [HCE.out,if_pos rfl];split <;> rfl
 have d3:decide (ce=1)=false:=by rw [HCE.out,if_pos rfl];split <;> rfl
 have d4:decide (ce=6)=false:=by rw [HCE.out,if_pos rfl];split <;> rfl
 have p2:=blk_cell hN3 2 _ rfl
 clear HE2
 go_wp2_with fail
 clear d1 d2 d3 d4 p2
 go_loopw [7,33] (fun v7 v33 wr=>∃ (k:Nat) (L:List S),v33=.int .i64 k∧k≤x.sn∧wr.ownsRow w3.heap.size 63 6 v7 L.length (L.flatMap S.cells)∧ShOk wr v7 L∧L.length≤k∧Hid (L.map S.bare=(K.restGo lost 0 (x.ss.take k)).map S.bare)∧Below w3.heap.size w3 wr) (fun _ v33 _=>x.sn - (intOf v33).toNat)
 case atStart=>exact ⟨0,[],rfl,Nat.zero_le _,World.ownsRow_nil _ _ _ _,fun s h=>(by cases h),Nat.zero_le _,rfl,Below.refl _ _⟩
 case round =>
  obtain ⟨k,L,rfl,hk,hown,hok,hlk,hbare,hbr⟩:=hrel
  have hbw:=bel hb3 hbr
  by_cases hlt:k < x.sn
  ·obtain ⟨ad,s,hA,hs,hI,c0,c1,c2,c3,c4,c5⟩:=(hx.shifts.below hbw).at_ hlt
   have HTK:=Lib.hid (K.restGo_take (lost:=lost) hs)
   have HSM:=Lib.hid (List.mem_of_getElem? hs)
   have k0:(0:Int)≤(k:Int):=by omega
   have k1:(k:Int) < (x.sn:Int):=by omega
   have hkt:k + 1≤x.sn:=hlt
   obtain ⟨gs,hgs⟩:∃ gs,gs=wr.heap.size:=⟨_,rfl⟩
   obtain ⟨w4,hw4⟩:∃ w4:World,w4=wr.alloc (.cells #[.int .i64 s.day,.int .i64 s.depot,.int .i64 s.start,.int .i64 s.end_,.int .i64 s.tare,.slice s.A s.n s.c] 63):=⟨_,rfl⟩
   have b4:Below wr.heap.size wr w4:=by rw [hw4];exact (Below.refl _ _).alloc (Nat.le_refl _) _
   have hB4:Shf w4 gs s:=by rw [hw4,hgs];exact heap_alloc_new _ _
   have CK:=contains64_any LA ln lc lost k w4 ((hL.below hbw).below b4) hln
   obtain ⟨z,hz⟩:∃ z,z=lost.any (· == (k:Int)):=⟨_,rfl⟩
   rw [←hz] at CK HTK
   have hI4:=hI.below b4
   have hgs1:wr.heap.size≤gs:=by rw [hgs];exact Nat.le_refl _
   clear hz hs hI
   rw [hA]
   have HA:=Lib.hid hA
   clear hA
   go_upto_region 10 with fail
   rw [←hw4,←hgs]
   clear hw4 hgs c0 c1 c2 c3 c4 c5
   go_wp2_with fail
   refine CK.mono ?_
   rintro e w5 ⟨rfl,b5⟩
   have b45:=bel b4 b5
   cases z
   rotate_left
   ·have HB:=Lib.hid (show L.map S.bare=(K.restGo lost 0 (x.ss.take (k + 1))).map S.bare by rw [HTK.out,if_pos rfl,List.append_nil];exact hbare.out)
    have hown5:=own_below hown b45
    have hok5:=hok.below b45
    have hb5:=bel hbr b45
    clear CK hown hok
    go_wp2_with fail
    go_roundw
    case rel=>(go_light;exact ⟨k + 1,L,by go_num,hkt,hown5,hok5,by omega,HB.out,hb5⟩)
    case measure=>(go_light;simp [intOf];omega)
   ·have hB5:Shf w5 gs s:=hB4.below b5
    have hB5':=hB5
    have hIL:=Lib.hid hI4.1
    obtain ⟨s0,s1,s2,s3,s4,s5⟩:=hB5.cells
    have sf:=blk_free hB5
    have CL:=clone_own s.A s.n s.c s.l w5 (hI4.below b5) (by have:=HSR.out s HSM.out;omega)
    clear CK
    go_wp2_with fail
    refine CL.mono ?_
    rintro e w6 ⟨⟨v,rfl,hv⟩,b6⟩
    obtain ⟨A6,c6,rfl,hR6,hF6⟩:=own_form hv
    have hB6:=hB5.below b6
    have b46:=bel b45 b6
    have b56:=b5.size
    clear s0 s1 s2 s3 s4 s5 sf hB4 hB5 CL
    obtain ⟨s0,s1,s2,s3,s4,s5⟩:=hB6.cells
    have sf:=blk_free hB6
    obtain ⟨w7,hw7⟩:∃ w7:World,w7=w6.setCell ⟨gs,5,none⟩ (.slice A6 s.n c6):=⟨_,rfl⟩
    have b7:Below wr.heap.size wr w7:=by rw [hw7];exact b46.setCell (p:=⟨gs,5,none⟩) hgs1 _
    have hB7:Shf w7 gs ⟨s.day,s.depot,s.start,s.end_,s.tare,A6,s.n,c6,s.l⟩:=by rw [hw7];exact blk_set hB6 5 _
    have hgs5:gs < w5.heap.size:=lt_of_block hB5'
    have hI7:Ints w7 A6 s.n s.l:=by
     rw [hw7]
     exact (show Ints w6 A6 s.n s.l from ⟨hIL.out,hR6⟩).set _ (fun ad e=>by have:=(hF6 ad.block (by rw [e];rfl)).1;omega)
    have hof7:0 < s.n→∀ ad,A6=some ad→u7.ownBlock ≠ some ad.block:=fun _ ad e e2=>by
     have h1:=(hF6 ad.block (by rw [e];rfl)).1
     have h2:=(own_in hown _ e2).2
     have:=b45.size
     omega
    have hown7:=own_below hown b7
    have hok7:=hok.below b7
    obtain ⟨q0,q1,q2,q3,q4,q5⟩:=hB7.cells
    obtain ⟨w8,hw8⟩:∃ w8:World,w8=w7.alloc (.cells #[.int .i64 s.day,.int .i64 s.depot,.int .i64 s.start,.int .i64 s.end_,.int .i64 s.tare,.slice A6 s.n c6] 63):=⟨_,rfl⟩
    obtain ⟨g8,hg8⟩:∃ g,g=w7.heap.size:=⟨_,rfl⟩
    have b8:Below w7.heap.size w7 w8:=by rw [hw8];exact (Below.refl _ _).alloc (Nat.le_refl _) _
    have hL8:w8.heap[g8]? = some (.cells #[.int .i64 s.day,.int .i64 s.depot,.int .i64 s.start,.int .i64 s.end_,.int .i64 s.tare,.slice A6 s.n c6] 63 (0,0)):=by rw [hw8,hg8];exact heap_alloc_new _ _
    have hown8:=own_below hown7 b8
    have hok8:=(hok7.snoc (y:=⟨s.day,s.depot,s.start,s.end_,s.tare,A6,s.n,c6,s.l⟩) hI7 hof7).below b8
    obtain ⟨i0,hi,hz0,hz1,hz2⟩:=info_parts clone150_info
    have hz8:w3.heap.size≤w8.heap.size:=Nat.le_trans hbr.size (Nat.le_trans b7.size b8.size)
    have hb8:=bel hbr (bel b7 b8)
    have HB:=Lib.hid (show (L ++ [(⟨s.day,s.depot,s.start,s.end_,s.tare,A6,s.n,c6,s.l⟩:S)]).map S.bare=(K.restGo lost 0 (x.ss.take (k + 1))).map S.bare by rw [HTK.out,if_neg (by decide),List.map_append,List.map_append,hbare.out];rfl)
    clear hv hR6 hF6 hI7 hof7 hok7 hown7 hown hok hgs5 hB5'
    go_upto_region 12 with fail
    rw [←hw7]
    clear hw7 s0 s1 s2 s3 s4 s5 sf hB6
    go_wp2_with (first
     | (at_builtin;rw [←hw8,←hg8];refine wp_append_rd rfl _ _ 25 rfl w3.heap.size 63 i0 (.agg #[.int .i64 0,.int .i64 0,.int .i64 0,.int .i64 0,.int .i64 0,.slice none 0 0]) 6 64 Tryz.underlying25 hi hz0 hz1 hz2 rfl (by decide) _ L.length (L.flatMap S.cells) rfl hown8 (some ⟨g8,0,none⟩) 1 1 (S.cells ⟨s.day,s.depot,s.start,s.end_,s.tare,A6,s.n,c6,s.l⟩) rfl (Rd.of_block hL8 6 1 rfl) (shift_one _) (by simp only [maxLen];omega) (by omega) hz8 ?_;intro v9 w9 hown9 hgr9 ha9)
     | fail)
    have hb9:Below w3.heap.size w3 w9:=below_own2 hb8 hgr9 (fun g e=>(hown8.lt g e).1)
    have hok9:=hok8.grow hgr9 ha9
    have hown9':w9.ownsRow w3.heap.size 63 6 v9 (L ++ [(⟨s.day,s.depot,s.start,s.end_,s.tare,A6,s.n,c6,s.l⟩:S)]).length ((L ++ [(⟨s.day,s.depot,s.start,s.end_,s.tare,A6,s.n,c6,s.l⟩:S)]).flatMap S.cells):=by
     rw [List.length_append,List.flatMap_append,List.flatMap_singleton]
     exact hown9
    have hlen:(L ++ [(⟨s.day,s.depot,s.start,s.end_,s.tare,A6,s.n,c6,s.l⟩:S)]).length≤k + 1:=by rw [List.length_append,List.length_singleton];omega
    have HLN:=Lib.hid hlen
    clear hown9 hgr9 ha9 hok8 hown8 hlen hw8 hg8 q0 q1 q2 q3 q4 q5
    go_roundw
    case rel=>(go_light;exact ⟨k + 1,_,by go_num,hkt,hown9',hok9,HLN.out,HB.out,hb9⟩)
    case measure=>(go_light;simp [intOf];omega)
  ·have hd:decide ((k:Int) < (x.sn:Int))=false:=by simp;omega
   have hd2:decide (k < x.sn)=false:=by simp;omega
   have HB:=Lib.hid (show L.map S.bare=RR.map S.bare by rw [HY.out,hbare.out,List.take_of_length_le (by rw [←HSN.out];omega)])
   obtain ⟨A9,c9,rfl,hR9,-⟩:=own_form hown
   go_wp2_with fail
   go_ret2
   exact ⟨⟨A9,L.length,c9,L,rfl,⟨⟨rfl,hR9⟩,fun s hs=>(hok s hs).1⟩,HB.out⟩,hbw⟩
def NB (w:World) (bl:List BV):Prop:=∀ y ∈ bl,(0 < y.vn→∀ ad,y.V=some ad→w.heap.size≤ad.block)∧(0 < y.ln→∀ ad,y.LA=some ad→w.heap.size≤ad.block)
theorem NB.snoc {w:World} {bl:List BV} (h:NB w bl) {y:BV} (h1:0 < y.vn→∀ ad,y.V=some ad→w.heap.size≤ad.block) (h2:0 < y.ln→∀ ad,y.LA=some ad→w.heap.size≤ad.block):NB w (bl ++ [y]):=fun z hz=>by
 rcases List.mem_append.1 hz with hz | hz
 ·exact h z hz
 ·rw [List.mem_singleton.1 hz];exact ⟨h1,h2⟩
def RetRefuteX (w w':World) (p:List (Int × List Int × List Lb)) (er:Int) (e:Ending):Prop :=
 (∃ A n c bl,e=.returned (.tuple #[.slice A n c,.int .i64 er])∧Blks w' A n bl∧n≤c∧FewB n bl∧bl.map BV.pr=p∧(∀ ad,A=some ad→w.heap.size≤ad.block)∧NB w bl)∧Below w.heap.size w w'
theorem retRefuteX_nil {w w':World} {er:Int} (hb:Below w.heap.size w w'):RetRefuteX w w' [] er (.returned (.tuple #[.slice none 0 0,.int .i64 er])) :=
 ⟨⟨none,0,0,[],rfl,⟨⟨rfl,rfl,fun h=>absurd h (by omega)⟩,fun y h=>by cases h⟩,Nat.le_refl _,⟨by omega,fun y h=>by cases h⟩,rfl,(fun ad e=>(by cases e)),(fun y h=>(by cases h))⟩,hb⟩
set_option maxRecDepth 100000 in
set_option maxHeartbeats 16000000 in
theorem refute32X (x:Cs) (w:World) (hx:CsAt w x) :
  Calls Tryz.prog 22 #[.agg #[.int .i64 x.nd,.slice x.A x.n x.c],.slice x.SA x.sn x.sc,.slice x.B x.m x.d] w fun e w'=>RetRefuteX w w' ((K.refute x.nd x.l x.ss x.r).1.map fun b=>((b.1:Int),b.2)) (K.refute x.nd x.l x.ss x.r).2 e:=by
 have hN:=Net.new w x.nd x.A x.n x.c
 have p0:=hN.c0
 have p1:=hN.c1
 have b0:Below w.heap.size w (w.alloc (.cells #[.int .i64 x.nd,.slice x.A x.n x.c] 24)):=(Below.refl _ _).alloc (Nat.le_refl _) _
 have CP:=plan32_any x _ (hx.below b0)
 go_enter Tryz.func22,Tryz.ntmps22
 go_wp2_with fail
 refine CP.mono ?_
 obtain ⟨ce,hce⟩:∃ ce,ce=(K.plan x.nd x.l x.ss x.r).2:=⟨_,rfl⟩
 rintro e w1 ⟨⟨PA,pn,pc,pl,rfl,-,-,-⟩,b1⟩
 rw [←hce]
 have hN1:=hN.below b1
 have hb1:=bel b0 b1
 clear p0 p1 b0 b1 hN CP
 by_cases hz:ce=0
 ·have HX:=Lib.hid (show K.refute x.nd x.l x.ss x.r=([],7) from K.refute_zero (by rw [←hce];exact hz))
  have hd:(ce == 0)=true:=by simp [hz]
  have hd2:decide (ce=0)=true:=by simp [hz]
  clear hce hz
  go_wp2_with fail
  go_ret2
  rw [HX.out]
  exact retRefuteX_nil hb1
 by_cases hz4:ce=4
 rotate_left
 ·have HX:=Lib.hid (show K.refute x.nd x.l x.ss x.r=([],ce) by rw [hce] at hz hz4 ⊢;exact K.refute_other hz hz4)
  have hd:(ce == 0)=false:=by simp [hz]
  have hd2:(ce == 4)=false:=by simp [hz4]
  clear hce hz hz4
  go_wp2_with fail
  go_ret2
  rw [HX.out]
  exact retRefuteX_nil hb1
 subst hz4
 have HR:=Lib.hid (K.refute_four hce.symm)
 have HOK:=Lib.hid (K.plan_four hce.symm)
 clear hce hz
 have p0:=hN1.c0
 have p1:=hN1.c1
 go_wp2_with fail
 refine (start32_any x _ (hx.below hb1) HOK.out).mono ?_
 rintro e w2 ⟨b,mb,gb,rfl,hp2⟩
 have hm6:x.m≤6:=by rw [hx.reqs.1];exact (K.pcheck_ok HOK.out).2.2.2.2
 have hsn4:x.sn≤4:=by rw [hx.shifts.1.1];exact (K.pcheck_ok HOK.out).2.1
 have HSN:=Lib.hid hx.shifts.1.1
 have HRN:=Lib.hid hx.reqs.1
 obtain ⟨shs,hshs⟩:∃ shs,shs=List.replicate x.sn (⟨none,0,0,[]⟩:Sh):=⟨_,rfl⟩
 rw [←hshs] at hp2
 obtain ⟨G0,hG0⟩:∃ G0,G0=w.heap.size:=⟨_,rfl⟩
 rw [←hG0] at hN1
 rw [←hG0]
 obtain ⟨B1,hB1⟩:∃ B1,B1=w2.heap.size:=⟨_,rfl⟩
 have hWB:=Lib.hid (show w.heap.size≤B1 by rw [hB1];exact Nat.le_trans hb1.size hp2.bw.size)
 clear p0 p1 hshs hG0
 go_wp2_with fail
 go_loopw [11,38] (fun v11 v38 wr=>∃ (s:Nat) (bl:List BV),v38=.int .i64 s∧s≤x.sn∧wr.ownsRow B1 90 3 v11 bl.length (bl.flatMap BV.cells)∧BlOk wr v11 bl∧NB w bl∧PlAt w1 wr b mb gb x (fun g=>v11.ownBlock=some g) shs∧B1≤wr.heap.size∧bl.length≤1000 * s∧Hid (bl.map BV.pr=K.blksUpto x.nd x.l x.ss x.r s)) (fun _ v38 _=>x.sn - (intOf v38).toNat)
 case atStart=>exact ⟨0,[],rfl,Nat.zero_le _,World.ownsRow_nil _ _ _ _,fun y hy=>(by cases hy),fun y hy=>(by cases hy),hp2.turn (fun g h=>(by cases h)),by rw [hB1];exact Nat.le_refl _,Nat.zero_le _,rfl⟩
 case round =>
  clear hp2 hB1
  obtain ⟨s,bl,rfl,hs,hown,hbo,hnb,hp,hBr,hbl,hcl⟩:=hrel
  by_cases hlt:s < x.sn
  ·obtain ⟨sS,hsS⟩:∃ sS,x.ss[s]? = some sS:=⟨_,List.getElem?_eq_getElem (by rw [←HSN.out];exact hlt)⟩
   have j0:decide ((s:Int) < (x.sn:Int))=true:=by simp;omega
   have HSS:=Lib.hid hsS
   clear hsS
   obtain ⟨ws,hws⟩:∃ ws,ws=wr:=⟨_,rfl⟩
   rw [←hws] at hown hbo hp hBr
   rw [←hws]
   clear hws
   obtain ⟨BS,hBS⟩:∃ BS,BS=ws.heap.size:=⟨_,rfl⟩
   obtain ⟨FE,hFE⟩:∃ FE,FE=K.feas x.nd x.l x.ss x.r s:=⟨_,rfl⟩
   have HFE:=Lib.hid hFE
   clear hFE
   go_wp2_with fail
   go_loopw [13,43] (fun v13 v43 wi=>∃ (k:Nat) (own:List Sh),v43=.int .i64 k∧k≤x.m∧wi.ownsRow BS 48 1 v13 own.length (own.map Sh.val)∧RowOk wi v13 own∧NewL BS own∧(∀ y ∈ own,y.n≤6)∧PlAt w1 wi b mb gb x (fun g=>u11.ownBlock=some g∨v13.ownBlock=some g) shs∧ws.grownBy wi (some mb)∧own.length≤64 * k∧Hid (own.map Sh.l=A.ownGo FE [] (A.upto x.m k))) (fun _ v43 _=>x.m - (intOf v43).toNat)
   case atStart=>exact ⟨0,[],rfl,Nat.zero_le _,World.ownsRow_nil _ _ _ _,fun y hy=>(by cases hy),fun y hy=>(by cases hy),fun y hy=>(by cases hy),hp.turn (fun g h=>h.elim .inl fun e=>(by cases e)),⟨rfl,rfl,rfl,Nat.le_refl _,fun _ _ _=>rfl⟩,Nat.zero_le _,rfl⟩
   case round =>
    obtain ⟨k,own,rfl,hk,hownO,hroO,hnwO,h6O,hpO,hgO,hlO,hcO⟩:=hrel
    obtain ⟨wk,hwk⟩:∃ wk,wk=wr:=⟨_,rfl⟩
    rw [←hwk] at hownO hroO hpO hgO
    rw [←hwk]
    clear hwk
    by_cases hkm:k < x.m
    ·have k0:decide ((k:Int) < (x.m:Int))=true:=by simp;omega
     obtain ⟨kk,hkk⟩:∃ kk,kk=k + 1:=⟨_,rfl⟩
     have ks:IntKind.i64.wrap ((k:Int) + 1)=(kk:Int):=by rw [IntWalk.i64_in _ (by omega)];omega
     have CS:=sets35_any x.m hm6 kk 0 wk (by omega) (by omega)
     rw [show ((0:Nat):Int)=0 from rfl] at CS
     have HKK:=Lib.hid hkk
     have hDl:(A.combos x.m kk 0).length≤64:=A.combos_few hm6 (by omega) (by omega)
     obtain ⟨D,hD⟩:∃ D,D=A.combos x.m kk 0:=⟨_,rfl⟩
     rw [←hD] at CS hDl
     have HD:=Lib.hid hD
     clear hkk hD
     go_wp2_with fail
     refine CS.mono ?_
     rintro e wl ⟨⟨E,m,c,l,rfl,hSl,hmc,hlD,hEn,hln⟩,bl2⟩
     have hml:m≤64:=by rw [hSl.1.1,←List.length_map (f:=Sh.l),hlD];exact hDl
     have hl6:∀ t ∈ l,t.n≤6∧t.l.Pairwise (· < ·)∧∀ i ∈ t.l,0≤i∧i < (x.m:Int):=fun t ht=>by
      have h9:t.l ∈ A.combos x.m kk 0:=by rw [←HD.out,←hlD];exact List.mem_map_of_mem ht
      obtain ⟨h1,h2,h3⟩:=A.mem_combos.1 h9
      have h4:=(hSl.2 t ht).1.1
      have:=HKK.out
      exact ⟨by omega,h2,fun i hi=>by have:=h3 i hi;omega⟩
     have hoffE:OffRow E m u13:=fun _ ad e e2=>by
      have h1:=(own_in hownO _ e2).2
      have h2:=hEn ad e
      omega
     have hroE:RowOk wl u13 l:=fun t ht=>⟨hSl.2 t ht,fun h0 ad e e2=>by
      have h1:=(own_in hownO _ e2).2
      have h2:=hln t ht h0 ad e
      omega⟩
     have hownL:=own_below hownO bl2
     have hroL:=hroO.below bl2
     have hpL:=hpO.below bl2
     have hgL:ws.grownBy wl (some mb):=hgO.andThen (row':=none) ⟨bl2.os,bl2.tape,bl2.output,bl2.size,fun q hq _=>bl2.block q hq⟩ (fun _ e=>by cases e)
     have hnE:NewL BS l:=hln.mono (by rw [hBS];exact hgO.size)
     clear CS hownO hroO hpO hgO hEn hln bl2
     go_wp2_with fail
     go_loopw [13,52] (fun v13 v52 wj=>∃ (j:Nat) (own':List Sh),v52=.int .i64 j∧j≤m∧Mid w1 ws wj b mb gb x shs u11 v13 BS own' E m l∧NewL BS own'∧(∀ y ∈ own',y.n≤6)∧own'.length≤own.length + j∧Hid (own'.map Sh.l=A.ownGo FE [] (A.upto x.m k ++ (l.take j).map Sh.l))) (fun _ v52 _=>m - (intOf v52).toNat)
     case atStart=>exact ⟨0,own,rfl,Nat.zero_le _,⟨hownL,hroL,hpL,hgL,hSl,hoffE,hroE⟩,hnwO,h6O,Nat.le_refl _,by show _=_;rw [List.take_zero,List.map_nil,List.append_nil];exact hcO.out⟩
     case round =>
      clear hownL hroL hnwO h6O hpL hgL hoffE hroE hSl
      obtain ⟨j,own',rfl,hj,M,hnwI,h6I,hlI,hcI⟩:=hrel
      by_cases hjm:j < m
      ·obtain ⟨E2,c2,rfl,hS2,hc2,-⟩:=own_shs M.row rfl M.ok
       obtain ⟨ad,t,rfl,hg,⟨hI,hsc,hs0⟩,hc⟩:=M.sh.at_ hjm
       obtain ⟨wj,hwj⟩:∃ wj,wj=wr:=⟨_,rfl⟩
       rw [←hwj] at M hS2 hI hc
       rw [←hwj]
       clear hwj
       have j0:decide ((j:Int) < (m:Int))=true:=by simp;omega
       have js:IntKind.i64.wrap ((j:Int) + 1)=((j + 1:Nat):Int):=by rw [IntWalk.i64_in _ (by omega)];omega
       have htm:=List.mem_of_getElem? hg
       obtain ⟨h6,hso,hbd⟩:=hl6 t htm
       have hbd':∀ i ∈ t.l,0≤i∧i < (x.r.length:Int):=fun i hi=>by have:=hbd i hi;have:=HRN.out;omega
       have bA:Below wj.heap.size wj (wj.alloc (.cells #[.slice t.A t.n t.c] 48)):=(Below.refl _ _).alloc (Nat.le_refl _) _
       have hG:=heap_alloc_new wj (.cells #[.slice t.A t.n t.c] 48)
       have CC:=contains36_any wj.heap.size E2 own'.length c2 own' t.A t.n t.c t.l (wj.alloc (.cells #[.slice t.A t.n t.c] 48)) (hS2.below bA) (by omega) hG (fun y hy=>by have:=h6I y hy;omega) (hI.below bA) (by omega)
       have HTM:=Lib.hid htm
       have HSB:=Lib.hid (And.intro hso hbd')
       have HG:=Lib.hid hg
       have HLI:=Lib.hid hlI
       have htk:(l.take (j + 1)).map Sh.l=(l.take j).map Sh.l ++ [t.l]:=by rw [List.take_add_one,hg,List.map_append];rfl
       have HTK:=Lib.hid htk
       have hxsz:∀ g,(u11.ownBlock=some g∨(Value.slice E2 own'.length c2).ownBlock=some g)→g < wj.heap.size:=fun g e=>e.elim (fun e=>by have h1:=(own_in hown g e).2;have h2:=M.gr.size;omega) (fun e=>(own_in M.row g e).2)
       have HXS:=Lib.hid hxsz
       clear hg hlI htm hso hbd hbd' htk hxsz
       go_wp2_with fail
       refine CC.mono ?_
       rintro e wc ⟨rfl,bc⟩
       have M1:=(M.below bA).below bc
       have hG1:=blk_below bc hG
       have hI1:=(hI.below bA).below bc
       have bAC:=bel bA bc
       have cG:=blk_cell hG1 0 _ rfl
       clear CC M hG hI bA bc hS2 hc
       obtain ⟨z,hz⟩:∃ z,z=(own'.map Sh.l).any fun u=>A.part u t.l:=⟨_,rfl⟩
       rw [←hz]
       have HZ:=Lib.hid hz
       clear hz
       cases z with
       | true =>
        have HN:=Lib.hid (A.ownGo_no (ok:=FE) (own:=[]) (L:=A.upto x.m k ++ (l.take j).map Sh.l) (v:=t.l) (.inl (by rw [←hcI.out];exact HZ.out.symm)))
        go_wp2_with fail
        go_roundw
        case rel=>exact ⟨j + 1,own',by go_num,by omega,M1,hnwI,h6I,by have:=HLI.out;omega,by show _=_;rw [HTK.out,←List.append_assoc,HN.out];exact hcI.out⟩
        case measure=>simp [intOf];omega
       | false =>
        have CB:=best32_any w1 b mb gb x shs s sS t.A t.n t.c t.l wc M1.pl (fun g e=>Nat.lt_of_lt_of_le (HXS.out g e) bAC.size) HSS.out hI1 hsc HSB.out.1 HSB.out.2
        have hfe:FE t.l=(K.best x.nd x.l sS x.r t.l).isSome:=by
         rw [HFE.out,Bool.eq_iff_iff,K.feas_iff M1.pl.ok HSB.out.1 HSB.out.2,Option.isSome_iff_exists]
         exact ⟨fun ⟨s2,t2,e1,e2⟩=>by rw [HSS.out] at e1;injection e1 with e1;subst e1;exact ⟨t2,e2⟩,fun ⟨t2,e2⟩=>⟨sS,t2,HSS.out,e2⟩⟩
        obtain ⟨T,hT⟩:∃ T,T=K.best x.nd x.l sS x.r t.l:=⟨_,rfl⟩
        rw [←hT] at CB hfe
        have HFT:=Lib.hid hfe
        clear hT hfe
        go_wp2_with fail
        refine CB.mono ?_
        rintro e wb ⟨⟨u',rfl,hTA⟩,hgb,hpb⟩
        have hGb:=(M1.pl.memo.ext hgb).cells _ _ _ _ hG1
        have M2:=M1.best hgb hpb
        have cGb:=blk_cell hGb 0 _ rfl
        clear CB hgb hpb M1 hG1 hI1 cG bAC
        cases T with
        | some bt =>
         obtain ⟨g,A8,n8,c8,A7,n7,c7,rfl,-⟩:=hTA
         have HN:=Lib.hid (A.ownGo_no (ok:=FE) (own:=[]) (L:=A.upto x.m k ++ (l.take j).map Sh.l) (v:=t.l) (.inr HFT.out))
         go_wp2_with fail
         go_roundw
         case rel=>exact ⟨j + 1,own',by go_num,by omega,M2,hnwI,h6I,by have:=HLI.out;omega,by show _=_;rw [HTK.out,←List.append_assoc,HN.out];exact hcI.out⟩
         case measure=>simp [intOf];omega
        | none =>
         obtain rfl:u'=.pointer none:=hTA
         have HN:=Lib.hid (A.ownGo_yes (ok:=FE) (own:=[]) (L:=A.upto x.m k ++ (l.take j).map Sh.l) (v:=t.l) (by rw [←hcI.out];exact HZ.out.symm) HFT.out)
         have hbs:BS≤wb.heap.size:=by have h2:=M2.gr.size;omega
         have bD:Below wb.heap.size wb (wb.alloc (.cells #[.slice t.A t.n t.c] 48)):=(Below.refl _ _).alloc (Nat.le_refl _) _
         have M3:=M2.below bD
         have hbs2:=Nat.le_trans hbs bD.size
         have hln:own'.length≤1000000:=by have:=HLI.out;omega
         clear M2 hGb
         go_wp2_with (at_builtin;refine app_shs rfl (.tmp 67) (.tmp 69) rfl BS (.slice E2 own'.length c2) own'.length own' rfl M3.row wb.heap.size t rfl (heap_alloc_new wb _) hln hbs2 ?_;intro v' w6 hown6 hgrow6 hat6)
         have M4:=M3.app HTM.out hgrow6 hat6 hown6 hBS
         clear M3 hown6 hgrow6 hat6 bD cGb
         go_roundw
         case rel=>exact ⟨j + 1,own' ++ [t],by go_num,by omega,M4,hnwI.snoc (hnE t HTM.out),fun y hy=>(List.mem_append.1 hy).elim (h6I y) (fun hy=>by rw [List.mem_singleton] at hy;rw [hy];exact h6),by rw [List.length_append];have:=HLI.out;simp;omega,by show _=_;rw [HTK.out,←List.append_assoc,HN.out,List.map_append,hcI.out];rfl⟩
         case measure=>simp [intOf];omega
      ·have j0:decide ((j:Int) < (m:Int))=false:=by simp;omega
       have hjm2:l.take j=l:=List.take_of_length_le (by have:=M.sh.1.1;omega)
       have HE:=Lib.hid (show own'.map Sh.l=A.ownGo FE [] (A.upto x.m kk) by rw [hcI.out,hjm2,hlD,HD.out,HKK.out,A.upto_succ])
       have HLI:=Lib.hid hlI
       clear hjm2 hlI
       go_wp2_with fail
       go_roundw
       case rel=>exact ⟨kk,own',rfl,by rw [HKK.out];omega,M.row,M.ok,hnwI,h6I,M.pl,M.gr,by have:=HLI.out;have:=HKK.out;omega,HE.out⟩
       case measure=>simp [intOf];have:=HKK.out;omega
    ·have k0:decide ((k:Int) < (x.m:Int))=false:=by simp;omega
     have hkm2:k=x.m:=by omega
     have HOWN:=Lib.hid (show own.map Sh.l=A.own FE x.m by rw [hcO.out,hkm2];rfl)
     obtain ⟨E,c,rfl,hSE,hnc,hEn⟩:=own_shs hownO rfl hroO
     clear hkm2
     have F0:Fin4 w1 wk b mb gb x shs u11 B1 bl E own.length own:=⟨hown.kept hgO (.inr fun e=>(hp.away mb e).2.2.1 rfl),hbo.ext (hp.memo.ext hgO),hpO.turn (fun g h=>.inl (.inl h)),hSE,fun h0 ad e e2=>(by have h1:=(own_in hown _ e2).2;have h2:=hEn ad e;omega),fun t ht=>⟨(hroO t ht).1,fun h0 ad e e2=>(by have h1:=(own_in hown _ e2).2;have h2:=hnwO t ht h0 ad e;omega)⟩⟩
     have hB1k:B1≤wk.heap.size:=by have:=hgO.size;omega
     have hol:own.length≤384:=by omega
     have HNW:=Lib.hid (show NewL w.heap.size own from hnwO.mono (by rw [hBS];exact Nat.le_trans hWB.out hBr))
     clear hown hbo hp hownO hroO hpO hgO hSE hEn hnwO hcO hBr
     go_wp2_with fail
     clear k0
     go_loopw [11,75] (fun v11 v75 wf=>∃ (j:Nat) (bl':List BV),v75=.int .i64 j∧j≤own.length∧Fin4 w1 wf b mb gb x shs v11 B1 bl' E own.length own∧NB w bl'∧B1≤wf.heap.size∧bl'.length=bl.length + j∧Hid (bl'.map BV.pr=bl.map BV.pr ++ (own.take j).map fun t=>((s:Int),t.l,K.labs x.nd x.l sS x.r t.l))) (fun _ v75 _=>own.length - (intOf v75).toNat)
     case atStart=>exact ⟨0,bl,rfl,Nat.zero_le _,F0,hnb,hB1k,rfl,by show _=_;rw [List.take_zero,List.map_nil,List.append_nil]⟩
     case round =>
      clear F0 hB1k
      obtain ⟨j,bl',rfl,hj,F,hnf,hBf,hlb,hcb⟩:=hrel
      obtain ⟨wf,hwf⟩:∃ wf,wf=wr:=⟨_,rfl⟩
      rw [←hwf] at F hBf
      rw [←hwf]
      clear hwf
      by_cases hjn:j < own.length
      ·obtain ⟨adE,t,rfl,hg,⟨hI,hsc,hs0⟩,hc⟩:=F.sh.at_ hjn
       obtain ⟨ads,s2,hSA,hs2,-,s0,s1,s2',s3,s4,s5⟩:=F.pl.case.shifts.at_ hlt
       rw [HSS.out] at hs2
       injection hs2 with hs2
       subst hs2
       rw [hSA]
       have hAt:At wf (x.one sS):=F.pl.one (List.mem_of_getElem? HSS.out)
       have SP:∀ w8:World,Below w1.heap.size w1 w8→(fun w':World=>w'.cell? ⟨G0,0,none⟩=some (.int .i64 x.nd)∧w'.cell? ⟨G0,1,none⟩=some (.slice x.A x.n x.c)∧w'.cell? (ads.add (s * 6))=some (.int .i64 sS.day)∧w'.cell? ⟨(ads.add (s * 6)).block,(ads.add (s * 6)).off + 1,none⟩=some (.int .i64 sS.depot)∧w'.cell? ⟨(ads.add (s * 6)).block,(ads.add (s * 6)).off + 2,none⟩=some (.int .i64 sS.start)∧w'.cell? ⟨(ads.add (s * 6)).block,(ads.add (s * 6)).off + 3,none⟩=some (.int .i64 sS.end_)∧w'.cell? ⟨(ads.add (s * 6)).block,(ads.add (s * 6)).off + 4,none⟩=some (.int .i64 sS.tare)∧w'.cell? ⟨(ads.add (s * 6)).block,(ads.add (s * 6)).off + 5,none⟩=some (.slice sS.A sS.n sS.c)) w8:=fun w8 hb=>⟨(hN1.below hb).c0,(hN1.below hb).c1,(hb.cell (cell_lt s0)).trans s0,(hb.cell (cell_lt s1)).trans s1,(hb.cell (cell_lt s2')).trans s2',(hb.cell (cell_lt s3)).trans s3,(hb.cell (cell_lt s4)).trans s4,(hb.cell (cell_lt s5)).trans s5⟩
       have S0:=SP wf F.pl.bw
       have S0d:=SP wf.drew (bel F.pl.bw (Below.refl _ _).drew)
       have hbdr:Below wf.heap.size wf wf.drew:=(Below.refl _ _).drew
       have j0:decide ((j:Int) < (own.length:Int))=true:=by simp;omega
       have js:IntKind.i64.wrap ((j:Int) + 1)=((j + 1:Nat):Int):=by rw [IntWalk.i64_in _ (by omega)];omega
       have htm:=List.mem_of_getElem? hg
       have h6:=h6O t htm
       have htk:(own.take (j + 1)).map (fun t=>((s:Int),t.l,K.labs x.nd x.l sS x.r t.l))=(own.take j).map (fun t=>((s:Int),t.l,K.labs x.nd x.l sS x.r t.l)) ++ [((s:Int),t.l,K.labs x.nd x.l sS x.r t.l)]:=by rw [List.take_add_one,hg,List.map_append];rfl
       have HTK:=Lib.hid htk
       have HLB:=Lib.hid hlb
       have HSA:=Lib.hid hSA
       have hofft:OffRow t.A t.n u11:=fun h0 ad e=>(F.lk t htm).2 h0 ad e
       clear hg htk hlb hSA s0 s1 s2' s3 s4 s5
       go_upto_region 26 with fail
       have k0:(0:Int)≤(s:Int):=by omega
       have k1:(s:Int) < (x.sn:Int):=by omega
       have h69:t.n≤1000000000:=by omega
       have hvl:t.l.length≤6:=by rw [←hI.1];exact h6
       have hln:bl'.length≤1000000:=by have:=HLB.out;omega
       go_region_held3 (fun w':World=>w'.cell? ⟨G0,0,none⟩=some (.int .i64 x.nd)∧w'.cell? ⟨G0,1,none⟩=some (.slice x.A x.n x.c)∧w'.cell? (ads.add (s * 6))=some (.int .i64 sS.day)∧w'.cell? ⟨(ads.add (s * 6)).block,(ads.add (s * 6)).off + 1,none⟩=some (.int .i64 sS.depot)∧w'.cell? ⟨(ads.add (s * 6)).block,(ads.add (s * 6)).off + 2,none⟩=some (.int .i64 sS.start)∧w'.cell? ⟨(ads.add (s * 6)).block,(ads.add (s * 6)).off + 3,none⟩=some (.int .i64 sS.end_)∧w'.cell? ⟨(ads.add (s * 6)).block,(ads.add (s * 6)).off + 4,none⟩=some (.int .i64 sS.tare)∧w'.cell? ⟨(ads.add (s * 6)).block,(ads.add (s * 6)).off + 5,none⟩=some (.slice sS.A sS.n sS.c))
        (first | with_reducible exact S10 | with_reducible exact S9a | with_reducible exact S9 | with_reducible exact S0d | with_reducible exact S0 | fail)
        (first
         | (go_at_call 78;refine (labels39_new (x.one sS) t.A t.n t.c t.l _ (hAt.below hbdr) (hI.below hbdr) hsc h69).mono ?_;rintro e w9 ⟨⟨LA,ln,lc,rfl,hL9,hLn9⟩,b9⟩;have F9:=F.below (bel hbdr b9);have hB9:B1≤w9.heap.size:=Nat.le_trans hBf (bel hbdr b9).size;have a9:Below w9.heap.size w9 (w9.alloc (.cells #[.int .i64 (s:Int),.slice t.A t.n t.c,.slice LA ln lc] 90)):=(Below.refl _ _).alloc (Nat.le_refl _) _;have S9:=SP w9 F9.pl.bw;have S9a:=SP _ (F9.below a9).pl.bw;have hoL:OffRow LA ln u11:=fun h0 ad e e2=>(by have h1:=(own_in F.row _ e2).2;have h2:=hLn9 ad e;have h3:=hbdr.size;omega);have hll:ln≤384:=(by have h1:=hL9.1;have h2:(K.labs x.nd x.l sS x.r t.l).length≤384:=K.labs_len6 hvl;have h3:ln=(K.labs x.nd x.l sS x.r t.l).length:=h1;omega))
         | (refine step_app_blk rfl (.tmp 79) (.tmp 91) rfl F9.row hB9 rfl w9.heap.size ⟨s,t.A,t.n,t.c,t.l,LA,ln,lc,K.labs x.nd x.l sS x.r t.l⟩ rfl a9 (heap_alloc_new w9 _) hln ?_;intro v' w10 hown10 hgrow10 hat10;have F10:=(F9.below a9).app ⟨⟨(hI.below (bel hbdr b9)).below a9,Lst.below hL9 a9⟩,hofft,hoL,hsc,h6,hll⟩ hgrow10 hat10 hown10;have S10:=SP w10 F10.pl.bw)
         | fail)
       have hB10:B1≤w10.heap.size:=by have h1:=hgrow10.size;have h2:=a9.size;omega
       have hnf2:NB w (bl' ++ [(⟨s,t.A,t.n,t.c,t.l,LA,ln,lc,K.labs x.nd x.l sS x.r t.l⟩:BV)]):=hnf.snoc (fun h0 ad e=>HNW.out t htm h0 ad e) (fun _ ad e=>by have h1:=hLn9 ad e;have h2:=F.pl.bw.size;have h3:=hb1.size;have h4:=hbdr.size;omega)
       clear F F9 S0 S0d S9 S9a S10 SP hL9 hLn9 a9 b9 hown10 hgrow10 hat10 hbdr hAt hc hI
       go_wp2_with fail
       go_roundw
       case rel=>exact ⟨j + 1,bl' ++ [⟨s,t.A,t.n,t.c,t.l,LA,ln,lc,K.labs x.nd x.l sS x.r t.l⟩],by go_num,by omega,F10,hnf2,hB10,by rw [List.length_append,HLB.out];simp;omega,by show _=_;rw [HTK.out,←List.append_assoc,←hcb.out,List.map_append];rfl⟩
       case measure=>simp [intOf];omega
      ·have j0:decide ((j:Int) < (own.length:Int))=false:=by simp;omega
       have ks:IntKind.i64.wrap ((s:Int) + 1)=((s + 1:Nat):Int):=by rw [IntWalk.i64_in _ (by omega)];omega
       have hjn2:own.take j=own:=List.take_of_length_le (by omega)
       have HNX:=Lib.hid (show bl'.map BV.pr=K.blksUpto x.nd x.l x.ss x.r (s + 1) by
        rw [K.blksUpto_succ,←hcl.out,hcb.out,hjn2,←HRN.out,←HFE.out,←HOWN.out,List.map_map]
        congr 1
        refine List.map_congr_left fun t _=>?_
        show _=((s:Int),t.l,_)
        rw [HSS.out])
       have HLB:=Lib.hid hlb
       clear hjn2 hlb
       go_wp2_with fail
       go_roundw
       case rel=>exact ⟨s + 1,bl',by go_num,hlt,F.row,F.ok,hnf,F.pl,hBf,by have:=HLB.out;omega,HNX.out⟩
       case measure=>simp [intOf];omega
  ·have hse:s=x.ss.length:=by have:=HSN.out;omega
   have j0:decide ((s:Int) < (x.sn:Int))=false:=by simp;omega
   obtain ⟨A9,c9,rfl,hRd,hF9⟩:=own_form hown
   have hnc9:bl.length≤c9:=by
    obtain ⟨-,⟨e,e0⟩ | ⟨g',cap,cur,e,-,-,h9,-⟩⟩:=hown
    ·rw [e0];exact Nat.zero_le _
    ·injection e with e1 e2 e3;rw [e3];exact h9
   have HB:=Lib.hid (show bl.map BV.pr=(K.refute x.nd x.l x.ss x.r).1.map fun b=>((b.1:Int),b.2) by rw [HR.out,K.blksUpto_all,←hse];exact hcl.out)
   have HX:=Lib.hid (show (K.refute x.nd x.l x.ss x.r).2=0 by rw [HR.out])
   have hbn:bl.length≤1000000000:=by omega
   clear hse hown
   go_wp2_with fail
   go_ret2
   rw [HX.out]
   exact ⟨⟨A9,bl.length,c9,bl,rfl,⟨⟨rfl,hRd⟩,fun y hy=>(hbo y hy).1⟩,hnc9,⟨hbn,fun y hy=>by obtain ⟨-,-,-,h1,h2,h3⟩:=hbo y hy;exact ⟨h1,by omega,by omega⟩⟩,HB.out,fun ad e=>Nat.le_trans hWB.out (hF9 _ (by rw [e];rfl)).1,hnb⟩,bel hb1 hp.bw⟩
theorem refute32_any (x:Cs) (w:World) (hx:CsAt w x) :
  Calls Tryz.prog 22 #[.agg #[.int .i64 x.nd,.slice x.A x.n x.c],.slice x.SA x.sn x.sc,.slice x.B x.m x.d] w fun e w'=>RetRefute w w' ((K.refute x.nd x.l x.ss x.r).1.map fun b=>((b.1:Int),b.2)) (K.refute x.nd x.l x.ss x.r).2 e :=
 (refute32X x w hx).mono fun _ _ ⟨⟨A,n,c,bl,h1,h2,h3,h4,h5,_,_⟩,hb⟩=>⟨⟨A,n,c,bl,h1,h2,h3,h4,h5⟩,hb⟩
theorem results_tmp4 {fn:Func} {t u v x:Tmp} (h:fn.results=#[.tmp t,.tmp u,.tmp v,.tmp x]) (tmps:Array Value) (P:Program) (w:World) :
  (results fn tmps).run P w=.ok (.tuple #[tmps.getD t undef,tmps.getD u undef,tmps.getD v undef,tmps.getD x undef]) w:=by simp [results,h]
def Ft (A:Option Addr) (n:Nat) (g:Nat):Prop:=0 < n∧∃ ad,A=some ad∧ad.block=g
def Sm (w w':World) (U:Nat→Prop):Prop:=∀ g,U g→g < w.heap.size→w'.heap[g]? = w.heap[g]?
theorem Rd.sm {w w':World} {s n:Nat} {A:Option Addr} {xs:List Value} (h:Rd w s A n xs) (hs:Sm w w' (Ft A n)):Rd w' s A n xs:=by
 refine ⟨h.1,fun h0=>?_⟩
 obtain ⟨ad,e,hc⟩:=h.2 h0
 refine ⟨ad,e,fun j u hu=>?_⟩
 have c:=hc j u hu
 have hl:=cell_lt c
 rw [add_block] at hl
 exact (World.cell?_of_block (by rw [add_block];exact hs _ ⟨h0,ad,e,rfl⟩ hl)).trans c
theorem Rd.ft_lt {w:World} {s n:Nat} {A:Option Addr} {xs:List Value} (h:Rd w s A n xs) (h0s:0 < s) {g:Nat} (hg:Ft A n g):g < w.heap.size:=by
 obtain ⟨h0,ad,e,rfl⟩:=hg
 obtain ⟨ad',e',hc⟩:=h.2 h0
 rw [e] at e'
 injection e' with e'
 subst e'
 have hl:0 < xs.length:=by rw [h.1];exact Nat.mul_pos h0 h0s
 have c:=hc 0 _ (List.getElem?_eq_getElem hl)
 have:=cell_lt c
 rwa [add_block] at this
theorem Sm.mono {w w':World} {U V:Nat→Prop} (h:Sm w w' U) (hV:∀ g,V g→U g):Sm w w' V:=fun g hg=>h g (hV g hg)
theorem Sm.grown {w w':World} {U:Nat→Prop} {v:Value} (hg:w.grownBy w' v.ownBlock) (h:∀ g,U g→v.ownBlock ≠ some g):Sm w w' U:=fun g hu hl=>hg.block g hl fun e=>h g hu e.symm
def UT (A:Option Addr) (n:Nat) (ts:List TV) (g:Nat):Prop:=Ft A n g∨∃ y ∈ ts,Ft y.A y.n g∨Ft y.A' y.n' g
def UQ (A:Option Addr) (n:Nat) (r:List Q) (g:Nat):Prop:=Ft A n g∨∃ q ∈ r,Ft q.A q.n g
def UB (A:Option Addr) (n:Nat) (bl:List BV) (g:Nat):Prop:=Ft A n g∨∃ y ∈ bl,Ft y.V y.vn g∨Ft y.LA y.ln g
theorem Tours.sm {w w':World} {A:Option Addr} {n:Nat} {ts:List TV} (h:Tours w A n ts) (hs:Sm w w' (UT A n ts)):Tours w' A n ts :=
 ⟨⟨h.1.1,h.1.2.sm (hs.mono fun _ e=>.inl e)⟩,fun y hy=>⟨⟨(h.2 y hy).1.1,(h.2 y hy).1.2.sm (hs.mono fun _ e=>.inr ⟨y,hy,.inl e⟩)⟩,⟨(h.2 y hy).2.1,(h.2 y hy).2.2.sm (hs.mono fun _ e=>.inr ⟨y,hy,.inr e⟩)⟩⟩⟩
theorem Tours.ft_lt {w:World} {A:Option Addr} {n:Nat} {ts:List TV} (h:Tours w A n ts) {g:Nat} (hg:UT A n ts g):g < w.heap.size:=by
 rcases hg with e | ⟨y,hy,e | e⟩
 ·exact h.1.2.ft_lt (by decide) e
 ·exact (h.2 y hy).1.2.ft_lt (by decide) e
 ·exact (h.2 y hy).2.2.ft_lt (by decide) e
theorem Reqs.sm {w w':World} {A:Option Addr} {n:Nat} {r:List Q} (h:Reqs w A n r) (hs:Sm w w' (UQ A n r)):Reqs w' A n r :=
 ⟨h.1,h.2.1.sm (hs.mono fun _ e=>.inl e),fun q hq=>⟨(h.2.2 q hq).1,(h.2.2 q hq).2.sm (hs.mono fun _ e=>.inr ⟨q,hq,e⟩)⟩⟩
theorem Reqs.ft_lt {w:World} {A:Option Addr} {n:Nat} {r:List Q} (h:Reqs w A n r) {g:Nat} (hg:UQ A n r g):g < w.heap.size:=by
 rcases hg with e | ⟨q,hq,e⟩
 ·exact h.2.1.ft_lt (by decide) e
 ·exact (h.2.2 q hq).2.ft_lt (by decide) e
theorem Blks.sm {w w':World} {A:Option Addr} {n:Nat} {bl:List BV} (h:Blks w A n bl) (hs:Sm w w' (UB A n bl)):Blks w' A n bl :=
 ⟨⟨h.1.1,h.1.2.sm (hs.mono fun _ e=>.inl e)⟩,fun y hy=>⟨⟨(h.2 y hy).1.1,(h.2 y hy).1.2.sm (hs.mono fun _ e=>.inr ⟨y,hy,.inl e⟩)⟩,⟨(h.2 y hy).2.1,(h.2 y hy).2.2.sm (hs.mono fun _ e=>.inr ⟨y,hy,.inr e⟩)⟩⟩⟩
theorem Blks.ft_lt {w:World} {A:Option Addr} {n:Nat} {bl:List BV} (h:Blks w A n bl) {g:Nat} (hg:UB A n bl g):g < w.heap.size:=by
 rcases hg with e | ⟨y,hy,e | e⟩
 ·exact h.1.2.ft_lt (by decide) e
 ·exact (h.2 y hy).1.2.ft_lt (by decide) e
 ·exact (h.2 y hy).2.2.ft_lt (by decide) e
structure RV where
 A:Option Addr
 n:Nat
 c:Nat
 bl:List BV
def RV.cells (y:RV):List Value:=[.slice y.A y.n y.c]
def RV.pr (y:RV):List (Int × List Int × List Lb):=y.bl.map BV.pr
def Rsn (w:World) (A:Option Addr) (n:Nat) (l:List RV):Prop:=Lst RV.cells 1 w A n l∧∀ y ∈ l,Blks w y.A y.n y.bl
def FewR (n:Nat) (l:List RV):Prop:=n≤1000000∧∀ y ∈ l,FewB y.n y.bl∧y.n≤y.c
theorem Rsn.below {w w':World} {A:Option Addr} {n:Nat} {l:List RV} (h:Rsn w A n l) (hb:Below w.heap.size w w'):Rsn w' A n l:=⟨Lst.below h.1 hb,fun y hy=>(h.2 y hy).below hb⟩
structure KD where
 kept:List Int
 L:List RV
 TA:Option Addr
 tn:Nat
 tc:Nat
 ts:List TV
 SA:Option Addr
 sn:Nat
 sc:Nat
 sv:List Q
def KD.uses (d:KD) (g:Nat):Prop:=UT d.TA d.tn d.ts g∨UQ d.SA d.sn d.sv g∨∃ y ∈ d.L,UB y.A y.n y.bl g
structure KAt (w:World) (B:Nat) (v4 v6:Value) (d:KD):Prop where
 row4:w.ownsRow B 3 1 v4 d.kept.length (intCells d.kept)
 row6:w.ownsRow B 28 1 v6 d.L.length (d.L.flatMap RV.cells)
 ne:∀ g,v4.ownBlock=some g→v6.ownBlock ≠ some g
 tours:Tours w d.TA d.tn d.ts
 tcap:d.tn≤d.tc∧∀ y ∈ d.ts,y.n≤y.c
 served:Reqs w d.SA d.sn d.sv
 reasons:∀ y ∈ d.L,Blks w y.A y.n y.bl
 few:∀ y ∈ d.L,FewB y.n y.bl∧y.n≤y.c
 off4:∀ g,d.uses g→v4.ownBlock ≠ some g
 off6:∀ g,d.uses g→v6.ownBlock ≠ some g
theorem KAt.below {w w':World} {B:Nat} {v4 v6:Value} {d:KD} (h:KAt w B v4 v6 d) (hb:Below w.heap.size w w'):KAt w' B v4 v6 d :=
 ⟨own_below h.row4 hb,own_below h.row6 hb,h.ne,h.tours.below hb,h.tcap,h.served.below hb,fun y hy=>(h.reasons y hy).below hb,h.few,h.off4,h.off6⟩
theorem KAt.lt {w:World} {B:Nat} {v4 v6:Value} {d:KD} (h:KAt w B v4 v6 d) {g:Nat} (hg:d.uses g):g < w.heap.size:=by
 rcases hg with e | e | ⟨y,hy,e⟩
 ·exact h.tours.ft_lt e
 ·exact h.served.ft_lt e
 ·exact (h.reasons y hy).ft_lt e
theorem KAt.zero (w:World) (B:Nat):KAt w B (.slice none 0 0) (.slice none 0 0) ⟨[],[],none,0,0,[],none,0,0,[]⟩:=by
 have hn:∀ g,¬ KD.uses ⟨[],[],none,0,0,[],none,0,0,[]⟩ g:=by
  rintro g ((⟨h,-⟩ | ⟨y,hy,-⟩) | (⟨h,-⟩ | ⟨y,hy,-⟩) | ⟨y,hy,-⟩)
  ·exact absurd h (Nat.lt_irrefl 0)
  ·cases hy
  ·exact absurd h (Nat.lt_irrefl 0)
  ·cases hy
  ·cases hy
 exact ⟨World.ownsRow_nil _ _ _ _,World.ownsRow_nil _ _ _ _,fun g e=>(by cases e),⟨⟨rfl,rfl,fun h=>absurd h (by decide)⟩,fun y h=>(by cases h)⟩,⟨Nat.le_refl _,fun y h=>(by cases h)⟩,⟨rfl,⟨rfl,fun h=>absurd h (by decide)⟩,fun y h=>(by cases h)⟩,fun y h=>(by cases h),fun y h=>(by cases h),fun g h=>absurd h (hn g),fun g h=>absurd h (hn g)⟩
theorem KAt.sm {w w':World} {B:Nat} {v4 v6:Value} {d:KD} (h:KAt w B v4 v6 d) (hs:Sm w w' d.uses):Tours w' d.TA d.tn d.ts∧Reqs w' d.SA d.sn d.sv∧∀ y ∈ d.L,Blks w' y.A y.n y.bl :=
 ⟨h.tours.sm (hs.mono fun _ e=>.inl e),h.served.sm (hs.mono fun _ e=>.inr (.inl e)),fun y hy=>(h.reasons y hy).sm (hs.mono fun _ e=>.inr (.inr ⟨y,hy,e⟩))⟩
theorem off_grow {w:World} {v v':Value} {U:Nat→Prop} (h:∀ g,U g→v.ownBlock ≠ some g) (hl:∀ g,U g→g < w.heap.size) (ha:v'.ownBlock=v.ownBlock∨v'.ownBlock=some w.heap.size):∀ g,U g→v'.ownBlock ≠ some g:=fun g hu e=>by
 rcases ha with e3 | e3
 ·exact h g hu (e3.symm.trans e)
 ·rw [e3] at e
  injection e with e
  have:=hl g hu
  omega
theorem row_other {w w':World} {base:Nat} {e:TypeId} {size n:Nat} {v u:Value} {xs:List Value} (h:w.ownsRow base e size v n xs) (hg:w.grownBy w' u.ownBlock) (hn:∀ g,v.ownBlock=some g→u.ownBlock ≠ some g):w'.ownsRow base e size v n xs:=by
 have hlt:=own_in h
 obtain ⟨hl,h1 | ⟨g,cap,cur,hv,hbg,hh,r⟩⟩:=h
 ·exact ⟨hl,.inl h1⟩
 ·have hb:v.ownBlock=some g:=by rw [hv];rfl
  exact ⟨hl,.inr ⟨g,cap,cur,hv,hbg,(hg.block g (hlt g hb).2 (fun e=>hn g hb e.symm)).trans hh,r⟩⟩
theorem KAt.app4 {w w':World} {B:Nat} {v4 v6 v4':Value} {d:KD} (h:KAt w B v4 v6 d) (hg:w.grownBy w' v4.ownBlock) (ha:v4'.ownBlock=v4.ownBlock∨v4'.ownBlock=some w.heap.size) {i:Int} (hr:w'.ownsRow B 3 1 v4' (d.kept.length + 1) (intCells (d.kept ++ [i]))) :
  KAt w' B v4' v6 ⟨d.kept ++ [i],d.L,d.TA,d.tn,d.tc,d.ts,d.SA,d.sn,d.sc,d.sv⟩:=by
 obtain ⟨h1,h2,h3⟩:=h.sm (Sm.grown hg h.off4)
 refine ⟨by show w'.ownsRow B 3 1 v4' (d.kept ++ [i]).length _;rw [List.length_append];exact hr,row_other h.row6 hg fun g e e2=>h.ne g e2 e,fun g e e2=>?_,h1,h.tcap,h2,h3,h.few,off_grow h.off4 (fun g hu=>h.lt hu) ha,h.off6⟩
 rcases ha with e3 | e3
 ·exact h.ne g (e3.symm.trans e) e2
 ·rw [e3] at e
  injection e with e
  have:=(own_in h.row6 g e2).2
  omega
theorem KAt.app6 {w w':World} {B:Nat} {v4 v6 v6':Value} {d:KD} (h:KAt w B v4 v6 d) (hg:w.grownBy w' v6.ownBlock) (ha:v6'.ownBlock=v6.ownBlock∨v6'.ownBlock=some w.heap.size) {y:RV} (hy:Blks w y.A y.n y.bl) (hf:FewB y.n y.bl∧y.n≤y.c)
  (ho4:∀ g,UB y.A y.n y.bl g→v4.ownBlock ≠ some g) (ho6:∀ g,UB y.A y.n y.bl g→v6.ownBlock ≠ some g) (hr:w'.ownsRow B 28 1 v6' (d.L.length + 1) ((d.L ++ [y]).flatMap RV.cells)) :
  KAt w' B v4 v6' ⟨d.kept,d.L ++ [y],d.TA,d.tn,d.tc,d.ts,d.SA,d.sn,d.sc,d.sv⟩:=by
 obtain ⟨h1,h2,h3⟩:=h.sm (Sm.grown hg h.off6)
 have hu:∀ g,KD.uses ⟨d.kept,d.L ++ [y],d.TA,d.tn,d.tc,d.ts,d.SA,d.sn,d.sc,d.sv⟩ g→d.uses g∨UB y.A y.n y.bl g:=by
  rintro g (e | e | ⟨z,hz,e⟩)
  ·exact .inl (.inl e)
  ·exact .inl (.inr (.inl e))
  ·rcases List.mem_append.1 hz with hz | hz
   ·exact .inl (.inr (.inr ⟨z,hz,e⟩))
   ·rw [List.mem_singleton.1 hz] at e;exact .inr e
 have g4:∀ g,KD.uses ⟨d.kept,d.L ++ [y],d.TA,d.tn,d.tc,d.ts,d.SA,d.sn,d.sc,d.sv⟩ g→v4.ownBlock ≠ some g:=fun g hg=>(hu g hg).elim (h.off4 g) (ho4 g)
 have g6:∀ g,KD.uses ⟨d.kept,d.L ++ [y],d.TA,d.tn,d.tc,d.ts,d.SA,d.sn,d.sc,d.sv⟩ g→v6.ownBlock ≠ some g:=fun g hg=>(hu g hg).elim (h.off6 g) (ho6 g)
 refine ⟨row_other h.row4 hg fun g e e2=>h.ne g e e2,by show w'.ownsRow B 28 1 v6' (d.L ++ [y]).length _;rw [List.length_append];exact hr,fun g e e2=>?_,h1,h.tcap,h2,fun z hz=>?_,fun z hz=>?_,g4,off_grow g6 (fun g hg=>(hu g hg).elim (fun e=>h.lt e) hy.ft_lt) ha⟩
 ·rcases ha with e3 | e3
  ·exact h.ne g e (e3.symm.trans e2)
  ·rw [e3] at e2
   injection e2 with e2
   have:=(own_in h.row4 g e).2
   omega
 ·rcases List.mem_append.1 hz with hz | hz
  ·exact h3 z hz
  ·rw [List.mem_singleton.1 hz];exact hy.sm (Sm.grown hg ho6)
 ·rcases List.mem_append.1 hz with hz | hz
  ·exact h.few z hz
  ·rw [List.mem_singleton.1 hz];exact hf
theorem KAt.turn {w:World} {B:Nat} {v4 v6:Value} {d:KD} (h:KAt w B v4 v6 d) {TA SA:Option Addr} {tn tc sn sc:Nat} {ts:List TV} {sv:List Q} (hT:Tours w TA tn ts) (hc:tn≤tc∧∀ y ∈ ts,y.n≤y.c) (hS:Reqs w SA sn sv)
  (h4T:∀ g,UT TA tn ts g→v4.ownBlock ≠ some g∧v6.ownBlock ≠ some g) (h4S:∀ g,UQ SA sn sv g→v4.ownBlock ≠ some g∧v6.ownBlock ≠ some g):KAt w B v4 v6 ⟨d.kept,d.L,TA,tn,tc,ts,SA,sn,sc,sv⟩ :=
 ⟨h.row4,h.row6,h.ne,hT,hc,hS,h.reasons,h.few,fun g e=>by
  rcases e with e | e | e
  ·exact (h4T g e).1
  ·exact (h4S g e).1
  ·exact h.off4 g (.inr (.inr e)),fun g e=>by
  rcases e with e | e | e
  ·exact (h4T g e).2
  ·exact (h4S g e).2
  ·exact h.off6 g (.inr (.inr e))⟩
theorem KAt.new {w w1:World} {B:Nat} {v4 v6:Value} {d:KD} (h:KAt w B v4 v6 d) (hb:Below w.heap.size w w1) {g:Nat} (hg:w1.heap.size≤g∨g < B):v4.ownBlock ≠ some g∧v6.ownBlock ≠ some g:=by
 have hz:=hb.size
 refine ⟨fun e=>?_,fun e=>?_⟩
 ·have:=own_in h.row4 g e;omega
 ·have:=own_in h.row6 g e;omega
theorem nt_new {w:World} {A:Option Addr} {n:Nat} {ts:List TV} (hA:∀ ad,A=some ad→w.heap.size≤ad.block) (h:NT w ts):∀ g,UT A n ts g→w.heap.size≤g:=by
 rintro g (⟨-,ad,e,rfl⟩ | ⟨y,hy,⟨h0,ad,e,rfl⟩ | ⟨h0,ad,e,rfl⟩⟩)
 ·exact hA ad e
 ·exact (h y hy).1 h0 ad e
 ·exact (h y hy).2.1 h0 ad e
theorem nb_new {w:World} {A:Option Addr} {n:Nat} {bl:List BV} (hA:∀ ad,A=some ad→w.heap.size≤ad.block) (h:NB w bl):∀ g,UB A n bl g→w.heap.size≤g:=by
 rintro g (⟨-,ad,e,rfl⟩ | ⟨y,hy,⟨h0,ad,e,rfl⟩ | ⟨h0,ad,e,rfl⟩⟩)
 ·exact hA ad e
 ·exact (h y hy).1 h0 ad e
 ·exact (h y hy).2 h0 ad e
theorem Tryz.underlying65k:Tryz.prog.underlying 65=some (.slice 28):=by kernel_rfl
theorem Tryz.info28k:(Tryz.prog.info? 28).map (fun i=>(i.zero,i.size,i.bytes))=some (some (.slice none 0 0),1,24):=by kernel_rfl
theorem rest_small {w:World} {x:Cs} (hx:CsAt w x) (hsn:x.sn≤1000000) (hsr:∀ s ∈ x.ss,s.n≤1000000) {w':World} {A:Option Addr} {n:Nat} {L R:List S} (hR:R.Sublist x.ss) (hL:Shifts w' A n L) (hb:L.map S.bare=R.map S.bare) :
  n≤1000000∧∀ s ∈ L,s.n≤1000000:=by
 have h1:L.length=R.length:=by rw [←List.length_map (f:=S.bare),hb,List.length_map]
 have h2:=hR.length_le
 have h3:=hx.shifts.1.1
 have h4:=hL.1.1
 refine ⟨by omega,fun s hs=>?_⟩
 have h5:s.bare ∈ R.map S.bare:=by rw [←hb];exact List.mem_map_of_mem hs
 obtain ⟨s',hs',e⟩:=List.mem_map.1 h5
 have h6:=hsr s' (hR.subset hs')
 have h7:=(hx.shifts.2 s' (hR.subset hs')).1
 have h8:=(hL.2 s hs).1
 have h9:s'.bare.l=s.bare.l:=by rw [e]
 change s'.l=s.l at h9
 rw [h8,←h9,←h7]
 exact h6
theorem rest34_sub {nd:Int} {l:List Ro} {ss:List S} {r:List Q} {lost:List Int}:(K.rest34 nd l ss r lost).Sublist ss:=by
 unfold K.rest34
 split
 ·exact K.restGo_sub ss 0
 ·exact List.nil_sublist _
structure KSays (nd:Int) (l:List Ro) (R:List S) (r:List Q) (i:Nat) (d:KD):Prop where
 kept:d.kept=(K.kpAt nd l R r i).kept
 sv:d.sv=(K.kpAt nd l R r i).served
 ts:d.ts.map TV.pr=(K.kpAt nd l R r i).tours
 rs:d.L.map RV.pr=(K.kpAt nd l R r i).reasons
 kl:d.kept.length≤i
 ll:d.L.length≤i
 sl:d.sn≤i
 inr:∀ q ∈ d.sv,q ∈ r
theorem KSays.zero (nd:Int) (l:List Ro) (R:List S) (r:List Q):KSays nd l R r 0 ⟨[],[],none,0,0,[],none,0,0,[]⟩ :=
 ⟨rfl,rfl,rfl,rfl,Nat.le_refl _,Nat.le_refl _,Nat.le_refl _,fun q h=>(by cases h)⟩
theorem KSays.yes {nd:Int} {l:List Ro} {R:List S} {r:List Q} {i:Nat} {d:KD} (h:KSays nd l R r i d) {q:Q} (hq:r[i]? = some q) (hf:(K.plan nd l R (d.sv ++ [q])).2=0) {TA SA:Option Addr} {tn tc sc:Nat} {ts:List TV} (hts:ts.map TV.pr=(K.plan nd l R (d.sv ++ [q])).1.map fun t=>((t.1:Int),t.2)) :
  KSays nd l R r (i + 1) ⟨d.kept ++ [(i:Int)],d.L,TA,tn,tc,ts,SA,d.sn + 1,sc,d.sv ++ [q]⟩:=by
 have e:=K.kpAt_succ (nd:=nd) (l:=l) (rest:=R) hq
 have hy:K.keepYes nd l R (K.kpAt nd l R r i) q=true:=by unfold K.keepYes;rw [←h.sv,hf];rfl
 unfold K.keepStep at e
 rw [if_pos hy] at e
 refine ⟨?_,?_,?_,?_,?_,?_,?_,?_⟩
 ·rw [e];show d.kept ++ _=_;rw [h.kept]
 ·rw [e];show d.sv ++ _=_;rw [h.sv]
 ·rw [e];show ts.map TV.pr=_;rw [hts,h.sv]
 ·rw [e];exact h.rs
 ·show (d.kept ++ [(i:Int)]).length≤i + 1
  have:=h.kl
  rw [List.length_append,List.length_singleton]
  omega
 ·have:=h.ll
  show d.L.length≤i + 1
  omega
 ·have:=h.sl
  show d.sn + 1≤i + 1
  omega
 ·intro p hp
  rcases List.mem_append.1 hp with hp | hp
  ·exact h.inr p hp
  ·rw [List.mem_singleton.1 hp];exact List.mem_of_getElem? hq
theorem KSays.no {nd:Int} {l:List Ro} {R:List S} {r:List Q} {i:Nat} {d:KD} (h:KSays nd l R r i d) {q:Q} (hq:r[i]? = some q) (hf:(K.plan nd l R (d.sv ++ [q])).2 ≠ 0) {y:RV} (hy:y.bl.map BV.pr=(K.refute nd l R (d.sv ++ [q])).1.map fun b=>((b.1:Int),b.2)) :
  KSays nd l R r (i + 1) ⟨d.kept,d.L ++ [y],d.TA,d.tn,d.tc,d.ts,d.SA,d.sn,d.sc,d.sv⟩:=by
 have e:=K.kpAt_succ (nd:=nd) (l:=l) (rest:=R) hq
 have hn:¬ K.keepYes nd l R (K.kpAt nd l R r i) q=true:=by unfold K.keepYes;rw [←h.sv,beq_iff_eq];exact hf
 unfold K.keepStep at e
 rw [if_neg hn] at e
 refine ⟨?_,?_,?_,?_,?_,?_,?_,h.inr⟩
 ·rw [e];exact h.kept
 ·rw [e];exact h.sv
 ·rw [e];exact h.ts
 ·rw [e]
  show (d.L ++ [y]).map RV.pr=_
  rw [List.map_append,h.rs,←h.sv,←hy]
  rfl
 ·have:=h.kl
  show d.kept.length≤i + 1
  omega
 ·show (d.L ++ [y]).length≤i + 1
  have:=h.ll
  rw [List.length_append,List.length_singleton]
  omega
 ·have:=h.sl
  show d.sn≤i + 1
  omega
def RetKeepC (w w':World) (k:K.Kp) (er:Int) (e:Ending):Prop :=
 (∃ KA kn kc RA rn rc,∃ d:KD,e=.returned (.tuple #[.slice KA kn kc,.slice d.TA d.tn d.tc,.slice RA rn rc,.int .i64 er])∧(Ints w' KA kn k.kept∧kn≤kc)∧Tours w' d.TA d.tn d.ts∧(d.tn≤d.tc∧∀ y ∈ d.ts,y.n≤y.c)∧FewT d.tn d.ts∧d.ts.map TV.pr=k.tours∧Rsn w' RA rn d.L∧FewR rn d.L∧d.L.map RV.pr=k.reasons)∧Below w.heap.size w w'
theorem retKeepC_nil {w w':World} {er:Int} (hb:Below w.heap.size w w'):RetKeepC w w' K.Kp.zero er (.returned (.tuple #[.slice none 0 0,.slice none 0 0,.slice none 0 0,.int .i64 er])) :=
 ⟨⟨none,0,0,none,0,0,⟨[],[],none,0,0,[],none,0,0,[]⟩,rfl,⟨⟨rfl,rfl,fun h=>absurd h (by decide)⟩,Nat.le_refl _⟩,⟨⟨rfl,rfl,fun h=>absurd h (by decide)⟩,fun y h=>(by cases h)⟩,⟨Nat.le_refl _,fun y h=>(by cases h)⟩,⟨by decide,fun y h=>(by cases h)⟩,rfl,⟨⟨rfl,rfl,fun h=>absurd h (by decide)⟩,fun y h=>(by cases h)⟩,⟨by decide,fun y h=>(by cases h)⟩,rfl⟩,hb⟩
set_option maxRecDepth 100000 in
set_option maxHeartbeats 16000000 in
theorem keep47c_any (x:Cs) (LA:Option Addr) (ln lc:Nat) (lost:List Int) (w:World) (hx:CsAt w x) (hL:Ints w LA ln lost) (hln:ln≤1000000000) (hsn:x.sn≤1000000) (hsr:∀ s ∈ x.ss,s.n≤1000000) :
  Calls Tryz.prog 47 #[.agg #[.int .i64 x.nd,.slice x.A x.n x.c,.slice x.SA x.sn x.sc,.slice x.B x.m x.d],.slice LA ln lc] w fun e w'=>RetKeepC w w' (K.keep34 x.nd x.l x.ss x.r lost).1 (K.keep34 x.nd x.l x.ss x.r lost).2 e:=by
 obtain ⟨w1,hw1⟩:∃ w1:World,w1=w.alloc (.cells #[.int .i64 x.nd,.slice x.A x.n x.c,.slice x.SA x.sn x.sc,.slice x.B x.m x.d] 44):=⟨_,rfl⟩
 obtain ⟨g,hg⟩:∃ g,g=w.heap.size:=⟨_,rfl⟩
 have b1:Below w.heap.size w w1:=by rw [hw1];exact (Below.refl _ _).alloc (Nat.le_refl _) _
 have hN1:BkBlk w1 g x:=by rw [hw1,hg];exact BkBlk.new _ _
 have p0:=blk_cell hN1 0 _ rfl
 have p1:=blk_cell hN1 1 _ rfl
 have p2:=blk_cell hN1 2 _ rfl
 have p3:=blk_cell hN1 3 _ rfl
 have CR:=rest45_any x LA ln lc lost w1 (hx.below b1) (hL.below b1) hln hsn hsr
 obtain ⟨KK,hKK⟩:∃ KK,KK=K.keep34 x.nd x.l x.ss x.r lost:=⟨_,rfl⟩
 rw [←hKK]
 have HKK:=Lib.hid hKK
 clear hKK
 go_enter Tryz.func47,Tryz.ntmps47
 go_upto_region 1 with fail
 rw [←hw1,←hg]
 clear hw1 hg
 go_wp2_with fail
 refine CR.mono ?_
 obtain ⟨er,her⟩:∃ er,er=K.restE x.nd x.l x.ss x.r lost:=⟨_,rfl⟩
 rw [←her]
 have HER:=Lib.hid her
 clear her
 rintro e w2 ⟨⟨RA,rn,rc,RL,rfl,hRS,hRB⟩,b2⟩
 have hN2:=hN1.below b2
 have hb2:=bel b1 b2
 clear CR p0 p1 p2 p3 b1 b2 hN1
 by_cases hz:er=0
 rotate_left
 ·have HX:=Lib.hid (show KK=(K.Kp.zero,er) by rw [HKK.out,HER.out];unfold K.keep34;rw [if_neg (by rw [←HER.out];exact hz)])
  have hd:(er != 0)=true:=by simp [bne,hz]
  go_wp2_with fail
  refine bodyPost_ret (results_tmp4 rfl _ _ _) rfl ?_
  rw [HX.out]
  exact retKeepC_nil hb2
 subst hz
 have hE0:K.restE x.nd x.l x.ss x.r lost=0:=HER.out.symm
 have HP:=Lib.hid (K.restE_0 hE0).2
 have hm6:x.m≤6:=by rw [hx.reqs.1];exact (K.pcheck_ok HP.out).2.2.2.2
 obtain ⟨R,hR⟩:∃ R,R=K.rest34 x.nd x.l x.ss x.r lost:=⟨_,rfl⟩
 rw [←hR] at hRB
 have HR:=Lib.hid (show R=K.restGo lost 0 x.ss by rw [hR];unfold K.rest34;rw [if_pos hE0])
 obtain ⟨hrn,hrs⟩:=rest_small hx hsn hsr (by rw [hR];exact rest34_sub) hRS hRB
 have HKR:=Lib.hid (show KK=(K.kpAt x.nd x.l R x.r x.r.length,0) by rw [HKK.out];unfold K.keep34;rw [if_pos hE0,HR.out,K.kpAt_len])
 have HRB:=Lib.hid hRB
 have HRN:=Lib.hid hx.reqs.1
 clear HKK HER hE0 hR hRB
 obtain ⟨B,hB⟩:∃ B,B=w2.heap.size:=⟨_,rfl⟩
 have hBz:w.heap.size≤B:=by rw [hB];exact hb2.size
 have hQ2:=hx.reqs.below hb2
 have p0:=blk_cell hN2 0 _ rfl
 have p1:=blk_cell hN2 1 _ rfl
 have p2:=blk_cell hN2 2 _ rfl
 have p3:=blk_cell hN2 3 _ rfl
 go_wp2_with fail
 clear p0 p1 p2 p3
 go_loopw [4,5,6,9,29] (fun v4 v5 v6 v9 v29 wr=>∃ (i:Nat) (d:KD),v29=.int .i64 i∧i≤x.m∧v5=.slice d.TA d.tn d.tc∧v9=.slice d.SA d.sn d.sc∧KAt wr B v4 v6 d∧KSays x.nd x.l R x.r i d∧Below w2.heap.size w2 wr) (fun _ _ _ _ v29 _=>x.m - (intOf v29).toNat)
 case atStart=>exact ⟨0,_,rfl,Nat.zero_le _,rfl,rfl,KAt.zero _ _,KSays.zero _ _ _ _,Below.refl _ _⟩
 case round =>
  obtain ⟨i,d,rfl,hi,rfl,rfl,hK,hS,hbr⟩:=hrel
  have hbw:=bel hb2 hbr
  by_cases hlt:i < x.m
  ·obtain ⟨ad,q,hA,hq,hW,c0,c1,c2,c3,c4,c5,c6⟩:=(hx.reqs.below hbw).at_ hlt
   have HQ:=Lib.hid hq
   have k0:(0:Int)≤(i:Int):=by omega
   have k1:(i:Int) < (x.m:Int):=by omega
   have hsl:=hS.sl
   obtain ⟨gs,hgs⟩:∃ gs,gs=wr.heap.size:=⟨_,rfl⟩
   obtain ⟨w4,hw4⟩:∃ w4:World,w4=wr.alloc (.cells #[.int .i64 q.node,.int .i64 q.room,.int .i64 q.kilos,.int .i64 q.service,.int .i64 q.frm,.int .i64 q.by_,.slice q.A q.n q.c] 47):=⟨_,rfl⟩
   have b4:Below wr.heap.size wr w4:=by rw [hw4];exact (Below.refl _ _).alloc (Nat.le_refl _) _
   have hB4:QBlk w4 gs q:=by rw [hw4,hgs];exact QBlk.new _ _
   have hK4:=hK.below b4
   have CW:=with112_any d.SA d.sn d.sc d.sv q w4 (by have h:=hK4.served.2.1;rw [reqCells_flat] at h;exact h) (by omega)
   rw [hA]
   have HA:=Lib.hid hA
   clear hA hq
   go_upto_region 8 with fail
   rw [←hw4,←hgs]
   clear hw4 hgs c0 c1 c2 c3 c4 c5 c6
   obtain ⟨s0,s1,s2,s3,s4,s5,s6⟩:=hB4.cells
   go_wp2_with fail
   refine CW.mono ?_
   rintro e w5 ⟨⟨v,rfl,hv⟩,b5⟩
   obtain ⟨SB,cB,rfl,hRv,hFv⟩:=own_form hv
   have b45:=bel b4 b5
   have hK5:=hK.below b45
   have hN5:=hN2.below (bel hbr b45)
   have hS5:Reqs w5 SB (d.sn + 1) (d.sv ++ [q]):=⟨by rw [List.length_append,←hK.served.1];rfl,by rw [reqCells_flat];exact hRv,fun p hp=>by
    rcases List.mem_append.1 hp with hp | hp
    ·exact (hK5.served).2.2 p hp
    ·rw [List.mem_singleton.1 hp];exact hW.below b45⟩
   have hUS:∀ g,UQ SB (d.sn + 1) (d.sv ++ [q]) g→w4.heap.size≤g∨g < B:=by
    rintro g (⟨-,ad,e,rfl⟩ | ⟨p,hp,e⟩)
    ·exact .inl (hFv _ (by rw [e];rfl)).1
    ·refine .inr ?_
     rw [hB]
     have hpr:p ∈ x.r:=by
      rcases List.mem_append.1 hp with hp | hp
      ·exact hS.inr p hp
      ·rw [List.mem_singleton.1 hp];exact List.mem_of_getElem? HQ.out
     exact hQ2.ft_lt (.inr ⟨p,hpr,e⟩)
   have hCs:CsAt w5 ⟨x.nd,x.A,x.n,x.c,x.l,RA,rn,rc,RL,SB,d.sn + 1,cB,d.sv ++ [q]⟩ :=
    ⟨Lst.below hx.net (bel hbw b45),hRS.below (bel hbr b45),hS5,hx.b1,fun s hs=>by have:=hrs s hs;omega,by show rn≤_;omega,by show d.sn + 1≤_;omega,fun p hp=>by
     rcases List.mem_append.1 hp with hp | hp
     ·exact hx.b5 p (hS.inr p hp)
     ·rw [List.mem_singleton.1 hp];exact hx.b5 q (List.mem_of_getElem? HQ.out)⟩
   have CP:=plan32X ⟨x.nd,x.A,x.n,x.c,x.l,RA,rn,rc,RL,SB,d.sn + 1,cB,d.sv ++ [q]⟩ w5 hCs
   rw [show K.plan (Cs.nd ⟨x.nd,x.A,x.n,x.c,x.l,RA,rn,rc,RL,SB,d.sn + 1,cB,d.sv ++ [q]⟩) (Cs.l ⟨x.nd,x.A,x.n,x.c,x.l,RA,rn,rc,RL,SB,d.sn + 1,cB,d.sv ++ [q]⟩) (Cs.ss ⟨x.nd,x.A,x.n,x.c,x.l,RA,rn,rc,RL,SB,d.sn + 1,cB,d.sv ++ [q]⟩) (Cs.r ⟨x.nd,x.A,x.n,x.c,x.l,RA,rn,rc,RL,SB,d.sn + 1,cB,d.sv ++ [q]⟩)=K.plan x.nd x.l R (d.sv ++ [q]) from K.plan_same rfl HRB.out] at CP
   obtain ⟨PP,hPP⟩:∃ PP,PP=K.plan x.nd x.l R (d.sv ++ [q]):=⟨_,rfl⟩
   rw [←hPP] at CP
   have HPP:=Lib.hid hPP
   clear hPP CW s0 s1 s2 s3 s4 s5 s6 hv hRv hFv hB4 hK4
   have p0:=blk_cell hN5 0 _ rfl
   have p1:=blk_cell hN5 1 _ rfl
   go_wp2_with fail
   refine CP.mono ?_
   rintro e w6 ⟨⟨TA,tn,tc,ts,rfl,hT6,htc,hts,hTA,hNT⟩,b6⟩
   have HTS:=Lib.hid hts
   have hUT:=nt_new (n:=tn) hTA hNT
   have htc2:tn≤tc∧∀ y ∈ ts,y.n≤y.c:=⟨htc,fun y hy=>(hNT y hy).2.2.1⟩
   have b46:=bel b45 b6
   have hK6:=hK5.below b6
   have hN6:=hN5.below b6
   have hCs6:=hCs.below b6
   have hS6:=hS5.below b6
   obtain ⟨f,hf⟩:∃ f,f=PP.2:=⟨_,rfl⟩
   rw [←hf]
   have HF:=Lib.hid hf
   clear hf CP p0 p1 hts hTA hNT hN5 hCs hS5 hK5
   by_cases hf0:f=0
   ·subst hf0
    have HSY:=Lib.hid (hS.yes (TA:=TA) (SA:=SB) (tn:=tn) (tc:=tc) (sc:=cB) HQ.out (by rw [←HPP.out];exact HF.out.symm) (by rw [HTS.out,HPP.out]))
    obtain ⟨w8,hw8⟩:∃ w8:World,w8=w6.alloc (.cells #[.int .i64 i] 3):=⟨_,rfl⟩
    obtain ⟨g8,hg8⟩:∃ g,g=w6.heap.size:=⟨_,rfl⟩
    have b8:Below w6.heap.size w6 w8:=by rw [hw8];exact (Below.refl _ _).alloc (Nat.le_refl _) _
    have hL8:w8.heap[g8]? = some (.cells #[.int .i64 i] 3 (0,0)):=by rw [hw8,hg8];exact heap_alloc_new _ _
    have hK8:=(hK6.turn (sc:=cB) hT6 htc2 hS6 (fun g e=>hK.new b45 (.inl (hUT g e))) (fun g e=>hK.new b4 (hUS g e))).below b8
    have hb8:=bel hbr (bel b46 b8)
    have hz8:B≤w8.heap.size:=by rw [hB];exact hb8.size
    have hkl:=hS.kl
    go_wp2_with (first
     | (at_builtin;rw [←hw8,←hg8];refine app_int rfl _ _ rfl B _ d.kept.length d.kept rfl hK8.row4 g8 i rfl hL8 (by omega) hz8 ?_;intro v' w9 hr9 hg9 ha9)
     | fail)
    have hK9:=hK8.app4 hg9 ha9 hr9
    have hb9:Below w2.heap.size w2 w9:=below_own2 hb8 hg9 (fun g e=>by rw [←hB];exact (own_in hK8.row4 g e).1)
    go_roundw
    case rel=>(go_light;exact ⟨i + 1,⟨d.kept ++ [(i:Int)],d.L,TA,tn,tc,ts,SB,d.sn + 1,cB,d.sv ++ [q]⟩,by go_num,hlt,rfl,rfl,hK9,HSY.out,hb9⟩)
    case measure=>(go_light;simp [intOf];omega)
   ·have HNF:=Lib.hid (show (K.plan x.nd x.l R (d.sv ++ [q])).2 ≠ 0 by rw [←HPP.out,←HF.out];exact hf0)
    have hd:(f == 0)=false:=by simp [hf0]
    have hd2:decide (f=0)=false:=by simp [hf0]
    have CF:=refute32X ⟨x.nd,x.A,x.n,x.c,x.l,RA,rn,rc,RL,SB,d.sn + 1,cB,d.sv ++ [q]⟩ w6 hCs6
    rw [show K.refute (Cs.nd ⟨x.nd,x.A,x.n,x.c,x.l,RA,rn,rc,RL,SB,d.sn + 1,cB,d.sv ++ [q]⟩) (Cs.l ⟨x.nd,x.A,x.n,x.c,x.l,RA,rn,rc,RL,SB,d.sn + 1,cB,d.sv ++ [q]⟩) (Cs.ss ⟨x.nd,x.A,x.n,x.c,x.l,RA,rn,rc,RL,SB,d.sn + 1,cB,d.sv ++ [q]⟩) (Cs.r ⟨x.nd,x.A,x.n,x.c,x.l,RA,rn,rc,RL,SB,d.sn + 1,cB,d.sv ++ [q]⟩)=K.refute x.nd x.l R (d.sv ++ [q]) from K.refute_same rfl HRB.out] at CF
    obtain ⟨PF,hPF⟩:∃ PF,PF=(K.refute x.nd x.l R (d.sv ++ [q])).1.map fun b=>((b.1:Int),b.2):=⟨_,rfl⟩
    obtain ⟨ef,hef⟩:∃ ef,ef=(K.refute x.nd x.l R (d.sv ++ [q])).2:=⟨_,rfl⟩
    rw [←hPF,←hef] at CF
    have HPF:=Lib.hid hPF
    have p0:=blk_cell hN6 0 _ rfl
    have p1:=blk_cell hN6 1 _ rfl
    clear hPF hef
    go_wp2_with fail
    refine CF.mono ?_
    rintro e w7 ⟨⟨FA,fn,fc,fl,rfl,hF7,hfc,hFB,hfp,hFA,hNB⟩,b7⟩
    have HSN:=Lib.hid (hS.no HQ.out HNF.out (y:=⟨FA,fn,fc,fl⟩) (by rw [←HPF.out];exact hfp))
    have hUB:=nb_new (n:=fn) hFA hNB
    have b67:=bel b46 b7
    obtain ⟨w8,hw8⟩:∃ w8:World,w8=w7.alloc (.cells #[.slice FA fn fc] 28):=⟨_,rfl⟩
    obtain ⟨g8,hg8⟩:∃ g,g=w7.heap.size:=⟨_,rfl⟩
    have b8:Below w7.heap.size w7 w8:=by rw [hw8];exact (Below.refl _ _).alloc (Nat.le_refl _) _
    have hL8:w8.heap[g8]? = some (.cells #[.slice FA fn fc] 28 (0,0)):=by rw [hw8,hg8];exact heap_alloc_new _ _
    have hK8:=(hK6.below b7).below b8
    have hF8:=hF7.below b8
    have hb8:=bel hbr (bel b67 b8)
    have hz8:B≤w8.heap.size:=by rw [hB];exact hb8.size
    have hll:=hS.ll
    obtain ⟨i0,hi0,hy0,hy1,hy2⟩:=info_parts Tryz.info28k
    clear p0 p1 CF
    go_wp2_with (first
     | (at_builtin;rw [←hw8,←hg8];refine wp_append_rd rfl _ _ 65 rfl B 28 i0 (.slice none 0 0) 1 24 Tryz.underlying65k hi0 hy0 hy1 hy2 rfl (by decide) _ d.L.length (d.L.flatMap RV.cells) rfl hK8.row6 (some ⟨g8,0,none⟩) 1 1 (RV.cells ⟨FA,fn,fc,fl⟩) rfl (Rd.of_block hL8 1 1 rfl) (by intro u hu;rw [show u=.slice FA fn fc from List.mem_singleton.1 hu];rfl) (by simp only [maxLen];omega) (by omega) hz8 ?_;intro v' w9 hr9 hg9 ha9)
     | fail)
    have hK9:=hK8.app6 (y:=⟨FA,fn,fc,fl⟩) hg9 ha9 hF8 ⟨hFB,hfc⟩ (fun g e=>(hK.new b46 (.inl (hUB g e))).1) (fun g e=>(hK.new b46 (.inl (hUB g e))).2) (by rw [List.flatMap_append,List.flatMap_singleton];exact hr9)
    have hb9:Below w2.heap.size w2 w9:=below_own2 hb8 hg9 (fun g e=>by rw [←hB];exact (own_in hK8.row6 g e).1)
    go_roundw
    case rel=>(go_light;exact ⟨i + 1,⟨d.kept,d.L ++ [⟨FA,fn,fc,fl⟩],d.TA,d.tn,d.tc,d.ts,d.SA,d.sn,d.sc,d.sv⟩,by go_num,hlt,rfl,rfl,hK9,HSN.out,hb9⟩)
    case measure=>(go_light;simp [intOf];omega)
  ·have hd:decide ((i:Int) < (x.m:Int))=false:=by simp;omega
   have hd2:decide (i < x.m)=false:=by simp;omega
   have HE:Hid (i=x.r.length):=Lib.hid (by rw [←HRN.out];omega)
   obtain ⟨KA,kc,rfl,hR4,-⟩:=own_form hK.row4
   obtain ⟨FA,fc,rfl,hR6,-⟩:=own_form hK.row6
   have hll:=hS.ll
   go_wp2_with fail
   refine bodyPost_ret (results_tmp4 rfl _ _ _) rfl ?_
   rw [HKR.out]
   have hP0:K.pcheck x.nd x.l R [] = 0:=K.pcheck_less HP.out (by rw [HR.out];exact K.restGo_sub _ _) (List.nil_sublist _)
   have hOk:=K.kpAt_ok hP0 (r:=x.r) (Nat.le_refl _)
   have hSl:KSays x.nd x.l R x.r x.r.length d:=by rw [←HE.out];exact hS
   have hfew:=K.checks_few hOk.tours
   rw [←hSl.ts] at hfew
   exact ⟨⟨KA,d.kept.length,kc,FA,d.L.length,fc,d,rfl,⟨by rw [←hSl.kept];exact ⟨rfl,hR4⟩,own_capP hK.row4⟩,hK.tours,hK.tcap,fewT_of hK.tours ⟨by have:=hfew.1;rwa [List.length_map] at this,hfew.2⟩,hSl.ts,⟨⟨rfl,hR6⟩,hK.reasons⟩,⟨by omega,hK.few⟩,hSl.rs⟩,hbw⟩
theorem len_split (p:Int→Bool):∀ v:List Int,v.length=(v.filter p).length + (v.filter fun j=>!p j).length
 | []=>rfl
 | a :: v=>by
  have ih:=len_split p v
  cases h:p a
  ·rw [List.filter_cons_of_neg (by simp [h]),List.filter_cons_of_pos (by simp [h]),List.length_cons,List.length_cons];omega
  ·rw [List.filter_cons_of_pos h,List.filter_cons_of_neg (by simp [h]),List.length_cons,List.length_cons];omega
theorem asc_len:∀ (v:List Int) (a b:Int),v.Pairwise (· < ·)→(∀ j ∈ v,a≤j∧j < b)→a≤b→(v.length:Int)≤b - a
 | [],a,b,_,_,h=>by show ((0:Nat):Int)≤b - a;omega
 | j :: v,a,b,h,hj,_=>by
  obtain ⟨h1,h2⟩:=List.pairwise_cons.1 h
  have h3:=hj j List.mem_cons_self
  have ih:=asc_len v (j + 1) b h2 (fun k hk=>⟨by have:=h1 k hk;omega,(hj k (List.mem_cons_of_mem _ hk)).2⟩) (by omega)
  rw [List.length_cons]
  omega
structure CSays (nd:Int) (l:List Ro) (R:List S) (r:List Q) (kept:List Int) (tours:List (Int × K.Tr)) (reasons:List (List (Int × List Int × List Lb))) (Z:Bool) (i:Nat) (sv:List Q):Prop where
 val:Z=K.kcheckGo nd l R kept tours i (r.drop i) sv (reasons.drop (i - sv.length))
 len:sv.length=(kept.filter fun j=>decide (j < (i:Int))).length
 le:sv.length≤i
 inr:∀ q ∈ sv,q ∈ r
section
variable {nd : Int} {l : List Ro} {R : List S} {r : List Q} {kept : List Int} {tours : List (Int × K.Tr)} {reasons : List (List (Int × List Int × List Lb))} {Z : Bool} {i : Nat} {sv : List Q} {q : Q}
theorem CSays.zero (h:K.asc33 r.length (-1) kept=true):CSays nd l R r kept tours reasons (K.kcheckGo nd l R kept tours 0 r [] reasons) 0 []:=by
 refine ⟨rfl,?_,Nat.le_refl _,fun q h=>(by cases h)⟩
 rw [K.filter_none fun j hj=>by have:=((K.asc33_iff.1 h).2 j hj).1;omega]
 rfl
theorem CSays.yes (h:CSays nd l R r kept tours reasons Z i sv) (ha:K.asc33 r.length (-1) kept=true) (hq:r[i]? = some q) (hc:kept.contains (i:Int)=true):CSays nd l R r kept tours reasons Z (i + 1) (sv ++ [q]):=by
 obtain ⟨hi,e⟩:=List.getElem?_eq_some_iff.1 hq
 have hf:=K.filter_succ (i:=(i:Int)) (K.asc33_iff.1 ha).1
 rw [if_pos hc] at hf
 refine ⟨?_,?_,?_,fun p hp=>?_⟩
 ·have hv:=h.val
  rw [List.drop_eq_getElem_cons hi,e,K.kcheckGo,if_pos hc] at hv
  rw [hv,List.length_append,List.length_singleton,Nat.add_sub_add_right]
 ·rw [List.length_append,h.len,Int.natCast_add,Int.natCast_one,hf,List.length_append]
  rfl
 ·have:=h.le
  rw [List.length_append,List.length_singleton]
  omega
 ·rcases List.mem_append.1 hp with hp | hp
  ·exact h.inr p hp
  ·rw [List.mem_singleton.1 hp];exact List.mem_of_getElem? hq
theorem CSays.no (h:CSays nd l R r kept tours reasons Z i sv) (ha:K.asc33 r.length (-1) kept=true) (hn:kept.length + reasons.length=r.length) (hq:r[i]? = some q) (hc:kept.contains (i:Int)=false) :
  ∃ b,reasons[i - sv.length]? = some b∧(K.refutes nd l R (sv ++ [q]) b=false→Z=false)∧(K.refutes nd l R (sv ++ [q]) b=true→CSays nd l R r kept tours reasons Z (i + 1) sv):=by
 obtain ⟨hi,e⟩:=List.getElem?_eq_some_iff.1 hq
 obtain ⟨a1,a2⟩:=K.asc33_iff.1 ha
 have hf:=K.filter_succ (i:=(i:Int)) a1
 rw [if_neg (by rw [hc];simp)] at hf
 have hle:=h.le
 have hlt:i - sv.length < reasons.length:=by
  have h1:=len_split (fun j=>decide (j < (i:Int))) kept
  have h2:=h.len
  have h3:=asc_len (kept.filter fun j=>!decide (j < (i:Int))) ((i:Int) + 1) (r.length:Int) (a1.sublist List.filter_sublist) (fun j hj=>by
   obtain ⟨g1,g2⟩:=List.mem_filter.1 hj
   have g3:=(a2 j g1).2
   have g4:j ≠ (i:Int):=fun e=>by rw [e] at g1;rw [List.contains_iff_mem.2 g1] at hc;cases hc
   simp at g2
   omega) (by omega)
  omega
 have hg:reasons[i - sv.length]? = some (reasons[i - sv.length]'hlt):=List.getElem?_eq_getElem hlt
 have hv:=h.val
 rw [List.drop_eq_getElem_cons hi,e,K.kcheckGo,if_neg (by rw [hc];simp),List.drop_eq_getElem_cons hlt] at hv
 change Z=(K.refutes nd l R (sv ++ [q]) (reasons[i - sv.length]'hlt) && K.kcheckGo nd l R kept tours (i + 1) (r.drop (i + 1)) sv (reasons.drop (i - sv.length + 1))) at hv
 refine ⟨_,hg,fun hr=>?_,fun hr=>⟨?_,?_,by omega,h.inr⟩⟩
 ·rw [hv,hr,Bool.false_and]
 ·rw [hr,Bool.true_and] at hv
  rw [hv,show i + 1 - sv.length=i - sv.length + 1 by omega]
 ·rw [h.len,Int.natCast_add,Int.natCast_one,hf]
end
theorem cs_snoc {w:World} {x:Cs} (hx:CsAt w x) {RA:Option Addr} {rn rc:Nat} {RL:List S} (hRS:Shifts w RA rn RL) (hrn:rn≤1000000) (hrs:∀ s ∈ RL,s.n≤1000000) {sv:List Q} {B:Nat} {v:Value} {n:Nat} (hn:n=sv.length)
  (hv:w.ownsRow B 47 7 v n (sv.flatMap Q.cells)) (hin:∀ p ∈ sv,p ∈ x.r) (hl:n≤1000000):∃ SB cB,v=.slice SB n cB∧CsAt w ⟨x.nd,x.A,x.n,x.c,x.l,RA,rn,rc,RL,SB,n,cB,sv⟩:=by
 obtain ⟨SB,cB,rfl,hRv,-⟩:=own_form hv
 exact ⟨SB,cB,rfl,hx.net,hRS,⟨hn,by rw [reqCells_flat];exact hRv,fun p hp=>hx.reqs.2.2 p (hin p hp)⟩,hx.b1,fun s hs=>by have:=hrs s hs;omega,by show rn≤_;omega,by show n≤_;omega,fun p hp=>hx.b5 p (hin p hp)⟩
end Go.Proofs.YtippdjmpkafifaaGreat
