import Derived.Test.YtippdjmpkafifaaGreatCP18
import Derived.Test.YtippdjmpkafifaaGreatCP19
import Derived.Test.YtippdjmpkafifaaGreatCP14
import Derived.Test.YtippdjmpkafifaaGreatCP7
import Derived.Test.YtippdjmpkafifaaGreatCP15
import Derived.Test.YtippdjmpkafifaaGreatCP17
import Derived.Test.YtippdjmpkafifaaGreatCP13
namespace Go.Proofs.YtippdjmpkafifaaGreat
open Go.RowKit
theorem Bools.at_ {w:World} {A:Option Addr} {n k:Nat} {l:List Bool} (h:Bools w A n l) (hk:k < n):∃ ad b,A=some ad∧l[k]? = some b∧w.cell? (ad.add k)=some (.bool b):=by
 obtain ⟨ad,b,hA,hl,hc⟩:=Lst.get (f:=boolCells) (s:=1) (fun _=>rfl) h hk
 have:=hc 0 _ (by decide) rfl
 rw [Nat.mul_one,Nat.add_zero] at this
 exact ⟨ad,b,hA,hl,this⟩
theorem bests_at {w:World} {A:Option Addr} {n k:Nat} {L:List BB} (h:Lst BB.cells 2 w A n L) (hk:k < n):∃ ad y,A=some ad∧L[k]? = some y∧w.cell? (ad.add (k * 2))=some (.slice y.A y.n y.c)∧w.cell? ⟨(ad.add (k * 2)).block,(ad.add (k * 2)).off + 1,none⟩=some (.slice y.O y.m y.k):=by
 obtain ⟨ad,y,hA,hl,hc⟩:=Lst.get (f:=BB.cells) (s:=2) (fun _=>rfl) h hk
 refine ⟨ad,y,hA,hl,hc 0 _ (by decide) rfl,?_⟩
 rw [←add_next _ _ _ (by decide)]
 exact hc 1 _ (by decide) rfl
def NTr (w:World) (ts:List TV):Prop:=∀ y ∈ ts,∀ g,Ft y.A y.n g∨Ft y.A' y.n' g→w.heap.size≤g
def RetRPlan (w w':World) (p:List (Nat × K.Tr) × Int) (e:Ending):Prop :=
 (∃ A n c l,e=.returned (.tuple #[.slice A n c,.int .i64 p.2])∧Tours w' A n l∧l.map TV.pr=p.1.map (fun t=>((t.1:Int),t.2))∧(∀ g,Ft A n g→w.heap.size≤g)∧NTr w l)∧Below w.heap.size w w'
theorem retRPlan_nil {w w':World} {p:List (Nat × K.Tr) × Int} {er:Int} (h:p=([],er)) (hb:Below w.heap.size w w'):RetRPlan w w' p (.returned (.tuple #[.slice none 0 0,.int .i64 er])):=by
 subst h
 exact ⟨⟨none,0,0,[],rfl,⟨⟨rfl,rfl,fun h=>absurd h (by omega)⟩,fun y h=>by cases h⟩,rfl,fun g e=>absurd e.1 (Nat.lt_irrefl 0),fun y h=>(by cases h)⟩,hb⟩
theorem says_ok {nd:Int} {l:List Ro} {s:S} {r:List Q} {k N:Nat} {ts:List TV} {ok:List Bool} (h:BSays nd l s r k N ts ok) {n:Nat} (hn:n < N):ok[n]? = some ((K.bAt nd l s r n).2 == 0):=by
 rw [h.2,List.getElem?_map,List.getElem?_range hn]
 rfl
theorem says_t {nd:Int} {l:List Ro} {s:S} {r:List Q} {k N:Nat} {ts:List TV} {ok:List Bool} (h:BSays nd l s r k N ts ok) {n:Nat} (hn:n < N) (h0:n ≠ 0) {y:TV} (hy:ts[n]? = some y):y.pr=((k:Int),(K.bAt nd l s r n).1):=by
 have e:(ts.map TV.pr)[n]? = some y.pr:=by rw [List.getElem?_map,hy];rfl
 rw [h.1,List.getElem?_map,List.getElem?_range hn] at e
 injection e with e
 dsimp only at e
 rw [if_neg h0] at e
 exact e.symm
set_option maxRecDepth 100000 in
set_option maxHeartbeats 32000000 in
theorem rplan21_any (x:Cs) (w:World) (hx:CsAt w x) (h4:K.pcheck x.nd x.l x.ss x.r=0→x.m≤4) :
  Calls Tryz.prog 21 #[.agg #[.int .i64 x.nd,.slice x.A x.n x.c],.slice x.SA x.sn x.sc,.slice x.B x.m x.d] w fun e w'=>RetRPlan w w' (K.plan x.nd x.l x.ss x.r) e:=by
 obtain ⟨w1,hw1⟩:∃ w1:World,w1=w.alloc (.cells #[.int .i64 x.nd,.slice x.A x.n x.c] 24):=⟨_,rfl⟩
 have hN1:Net w1 w.heap.size x.nd x.A x.n x.c:=by rw [hw1];exact Net.new w x.nd x.A x.n x.c
 have hb1:Below w.heap.size w w1:=by rw [hw1];exact (Below.refl _ _).alloc (Nat.le_refl _) _
 obtain ⟨G0,hG0⟩:∃ G0,G0=w.heap.size:=⟨_,rfl⟩
 rw [←hG0] at hN1
 have HSN:=Lib.hid hx.shifts.1.1
 have HRN:=Lib.hid hx.reqs.1
 have CS:=rstart69_any x w1 (hx.below hb1)
 obtain ⟨ce,hce⟩:∃ ce,ce=K.pcheck x.nd x.l x.ss x.r:=⟨_,rfl⟩
 rw [←hce] at CS h4
 have p0:=hN1.c0
 have p1:=hN1.c1
 go_enter Tryz.func21,Tryz.ntmps21
 go_upto_region 1 with fail
 rw [←hw1,←hG0]
 clear hw1 hG0
 go_wp2_with fail
 refine CS.mono ?_
 rintro e w2 ⟨rfl,b2⟩
 have hb2:=bel hb1 b2
 have hN2:=hN1.below b2
 clear CS p0 p1 hN1
 by_cases hz:ce=0
 rotate_left
 ·have HX:=Lib.hid (show K.plan x.nd x.l x.ss x.r=([],ce) by rw [hce] at hz ⊢;exact K.plan_err hz)
  have hd:(ce != 0)=true:=by simp [bne,hz]
  clear hce
  go_wp2_with fail
  go_ret2
  exact retRPlan_nil HX.out hb2
 subst hz
 have HOK:=Lib.hid hce.symm
 have hm4:x.m≤4:=h4 rfl
 have hsn4:x.sn≤4:=by rw [hx.shifts.1.1];exact (K.pcheck_ok HOK.out).2.1
 clear hce h4
 by_cases hret:0 < x.m∧x.sn=0
 ·obtain ⟨hm0,hs0⟩:=hret
  have HX:=Lib.hid (show K.plan x.nd x.l x.ss x.r=([],4) from K.plan_no HOK.out fun e he=>by
   rw [←HSN.out,←HRN.out,hs0] at he
   obtain ⟨k,hk⟩:∃ k,x.m=k + 1:=⟨x.m - 1,by omega⟩
   rw [hk,K.exts_no] at he
   cases he)
  have d1:decide ((0:Int) < (x.m:Int))=true:=decide_eq_true (by omega)
  have d2:decide (0 < x.m)=true:=decide_eq_true hm0
  have d3:((x.sn:Int) == 0)=true:=by simp [hs0]
  have d4:decide ((x.sn:Int)=0)=true:=by simp [hs0]
  clear hs0 hm0
  go_wp2_with fail
  go_ret2
  exact retRPlan_nil HX.out hb2
 have hcase:0 < x.sn∨x.m=0:=by omega
 have HCS:=Lib.hid hcase
 go_upto_region 4 with fail
 go_cut [30] from 23 to 30 (fun v30 wc=>v30=.bool false∧wc=w2)
 case first =>
  by_cases hm0:0 < x.m
  ·have d1:decide ((0:Int) < (x.m:Int))=true:=decide_eq_true (by omega)
   have d2:decide (0 < x.m)=true:=decide_eq_true hm0
   have d3:((x.sn:Int) == 0)=false:=by simp;omega
   have d4:decide ((x.sn:Int)=0)=false:=by simp;omega
   clear hret hcase
   go_wp2_with fail
   go_meet
   exact ⟨rfl,rfl⟩
  ·have d1:decide ((0:Int) < (x.m:Int))=false:=decide_eq_false (by omega)
   have d2:decide (0 < x.m)=false:=decide_eq_false hm0
   clear hret hcase
   go_wp2_with fail
   go_meet
   exact ⟨rfl,rfl⟩
 case rest =>
 obtain ⟨rfl,hwc⟩:=hcut
 rw [hwc]
 clear hwc hret hcase
 have CB:=bests70_any x w2 (hx.below hb2) hm4 hsn4
 have p0:=hN2.c0
 have p1:=hN2.c1
 go_wp2_with fail
 refine CB.mono ?_
 rintro e w3 ⟨⟨BA,bn,bc,L,rfl,hLs,rfl,hHas,hNew,hAll⟩,b3⟩
 have HLL:=Lib.hid (show x.sn=L.length from hLs.1)
 have HHS:=Lib.hid hHas
 have HNW:=Lib.hid hNew
 have HAL:=Lib.hid hAll
 have hb3:=bel hb2 b3
 have hw23:=b3.size
 have hwz:=hb2.size
 clear CB p0 p1 hN2 hHas hNew hAll
 obtain ⟨h,hh⟩:∃ h,h=w3.heap.size:=⟨_,rfl⟩
 obtain ⟨w5,hw5⟩:∃ w5:World,w5=w3.alloc (.cells (intCells (List.replicate x.m 0)).toArray 3):=⟨_,rfl⟩
 have b35:Below w3.heap.size w3 w5:=by rw [hw5];exact (Below.refl _ _).alloc (Nat.le_refl _) _
 have hI5:Ints w5 (some ⟨h,0,none⟩) x.m (K.nat (List.replicate x.m 0)):=by
  have h9:IBlk w5 h (List.replicate x.m 0):=by rw [hw5,hh];exact heap_alloc_new _ _
  have h8:=h9.ints
  rw [List.length_replicate] at h8
  unfold K.nat
  rw [List.map_replicate]
  exact h8
 have hmk:=make_ints x.m (by omega)
 have hb5:=bel hb3 b35
 go_wp2_with fail
 rw [←hw5,←hh]
 clear hw5 hh hmk
 have hex0:=K.exts_head0 (m:=x.sn) (k:=x.m) HCS.out
 go_loopw [10,11] (fun v10 v11 wr=>Below w5.heap.size w5 wr∧((v11=.bool false∧Hid (∀ e ∈ A.exts x.sn x.m,A.possible (K.feas x.nd x.l x.ss x.r) x.ss.length e=false))∨∃ (j:Nat) (d:List Nat) (LA:Option Addr) (ln lc:Nat),v11=.bool true∧v10=.slice LA ln lc∧Ints wr LA ln (K.nat d)∧Hid ((A.exts x.sn x.m)[j]? = some d)∧Hid (∀ e ∈ (A.exts x.sn x.m).take j,A.possible (K.feas x.nd x.l x.ss x.r) x.ss.length e=false))) (fun v10 v11 wr=>rank32 x.sn x.m v10 v11 wr)
 case atStart=>exact ⟨Below.refl _ _,.inr ⟨0,_,_,_,_,rfl,rfl,hI5,hex0,fun e he=>(by cases he)⟩⟩
 case round =>
  clear hI5 hex0
  obtain ⟨hbr,(⟨rfl,hno⟩ | ⟨j,d,LA,ln,lc,rfl,rfl,hI,hj,hbef⟩)⟩:=hrel
  ·have HX:=Lib.hid (show K.plan x.nd x.l x.ss x.r=([],4) from K.plan_no HOK.out fun e he=>by rw [←HSN.out,←HRN.out] at he;exact hno.out e he)
   go_wp2_with fail
   go_ret2
   exact retRPlan_nil HX.out (bel hb5 hbr)
  ·obtain ⟨wo,hwo⟩:∃ wo:World,wo=wr:=⟨_,rfl⟩
   rw [←hwo] at hbr hI
   rw [←hwo]
   clear hwo
   obtain ⟨hdl,hdm⟩:=A.mem_exts.1 (List.mem_of_getElem? hj.out)
   have hln:ln=x.m:=by rw [hI.1];unfold K.nat;rw [List.length_map];exact hdl
   have HLN:=Lib.hid hln
   have HDL:=Lib.hid hdl
   have HDM:=Lib.hid hdm
   have HDR:=Lib.hid (show d.length=x.r.length by rw [hdl,HRN.out])
   have hln3:ln≤1000:=by omega
   have HRK:=Lib.hid (rank_of (c:=lc) (m:=x.sn) (k:=x.m) hI)
   have hb6:=bel hb5 hbr
   have b3o:=bel b35 hbr
   have hwoz:=hb6.size
   clear hdl hdm hln
   go_wp2_with fail
   go_loopw [12,13,14] (fun v12 v13 v14 wi=>∃ (s:Nat) (ts:List TV) (zz:Bool),v14=.int .i64 s∧s≤x.sn∧v13=.bool zz∧wi.ownsRow wo.heap.size 80 4 v12 ts.length (ts.flatMap TV.cells)∧Hid (zz=K.rposs x.nd x.l x.ss x.r d s)∧Hid (ts.map TV.pr=(K.rtours x.nd x.l x.ss x.r d s).map fun t=>((t.1:Int),t.2))∧Hid (∀ y ∈ ts,∃ b ∈ L,y ∈ b.ts)∧ts.length≤s∧Below wo.heap.size wo wi) (fun _ _ v14 _=>x.sn - (intOf v14).toNat)
   case atStart=>exact ⟨0,[],true,rfl,Nat.zero_le _,rfl,World.ownsRow_nil _ _ _ _,rfl,rfl,fun y hy=>(by cases hy),Nat.zero_le _,Below.refl _ _⟩
   case round =>
    obtain ⟨s,ts,zz,rfl,hs,rfl,hown,hzz,htp,hmem,htl,hbi⟩:=hrel
    by_cases hlt:s < x.sn
    ·have i0:(0:Int)≤(s:Int):=by omega
     have i1:(s:Int) < (x.sn:Int):=by omega
     obtain ⟨sS,hsS⟩:∃ sS,x.ss[s]? = some sS:=⟨_,List.getElem?_eq_getElem (by rw [←HSN.out];exact hlt)⟩
     have HPS:=Lib.hid (K.rposs_succ (nd:=x.nd) (l:=x.l) (r:=x.r) (d:=d) hsS)
     have HTN:=Lib.hid (fun h=>K.rtours_none (nd:=x.nd) (l:=x.l) (ss:=x.ss) (r:=x.r) (d:=d) (s:=s) h)
     have HTS:=Lib.hid (fun h=>K.rtours_some (nd:=x.nd) (l:=x.l) (r:=x.r) (d:=d) hsS h)
     have hsh:=A.share_sorted d s 0
     have hin:=K.share_in HDR.out s
     have hpn:=K.part_num (by rw [←HRN.out];exact hm4) hsh hin
     obtain ⟨v,hv⟩:∃ v,v=A.share d s 0:=⟨_,rfl⟩
     rw [←hv] at hsh hin hpn HPS HTN HTS
     have CSH:=share22_any LA ln lc d s wr (hI.below hbi) hln3
     rw [←hv] at CSH
     have hin6:∀ i ∈ v,0≤i∧i < 6:=fun i hi=>by have:=hin i hi;have:=HRN.out;omega
     obtain ⟨nn,hnn⟩:∃ nn,nn=K.num v:=⟨_,rfl⟩
     have hnp:nn < 2 ^ x.r.length:=by rw [hnn];exact hpn.2
     rw [←hnn] at HPS HTN HTS
     have HNP:=Lib.hid hnp
     have HH6:=Lib.hid hin6
     have HSH:=Lib.hid hsh
     have HNN:=Lib.hid hnn.symm
     have HSS:=Lib.hid hsS
     have h16:nn < 16:=Nat.lt_of_lt_of_le hnp (by rw [←HRN.out];exact K.pow16 hm4)
     clear hsS hpn hv hnn hnp hin6 hin hsh
     go_upto_region 16 with fail
     go_wp2_with fail
     refine CSH.mono ?_
     rintro e w6 ⟨⟨V,vn,vc,rfl,hV,-⟩,b6⟩
     have CN:=number72_any V vn vc v w6 hV HSH.out HH6.out
     rw [HNN.out] at CN
     clear CSH
     go_wp2_with fail
     refine CN.mono ?_
     rintro e w6' ⟨rfl,rfl⟩
     have hbi6:=bel hbi b6
     have b36:=bel b3o hbi6
     have hown6:=own_below hown b6
     obtain ⟨adB,y,hBA,hy,c0,c1⟩:=bests_at (Lst.below hLs b36) hlt
     have hyL:=List.mem_of_getElem? hy
     have hyH:=(HHS.out y hyL).below b36
     have hSay:=HAL.out s y sS hy HSS.out
     obtain ⟨hl1,hl2⟩:=hSay.len
     have hnT:nn < y.n:=by rw [hyH.1.1.1,hl1];exact HNP.out
     have hnO:nn < y.m:=by rw [hyH.2.1,hl2];exact HNP.out
     obtain ⟨adO,bO,hOA,hbO,cO⟩:=hyH.2.at_ hnO
     have hbO2:bO=((K.bAt x.nd x.l sS x.r nn).2 == 0):=by
      have h9:=says_ok hSay HNP.out
      rw [hbO] at h9
      injection h9
     have n0:(0:Int)≤(nn:Int):=by omega
     have n1:(nn:Int) < (y.m:Int):=by omega
     have n2:(nn:Int) < (y.n:Int):=by omega
     have HZ2:=Lib.hid (show (zz && bO)=K.rposs x.nd x.l x.ss x.r d (s + 1) by rw [HPS.out,←hzz.out,hbO2])
     obtain ⟨adT,tv,hTA,htv,⟨hI1,hI2⟩,t0,t1,t2,t3⟩:=hyH.1.at_ hnT
     have HTV:=Lib.hid (fun h0=>says_t hSay HNP.out h0 htv)
     have HTM:=Lib.hid (List.mem_of_getElem? htv)
     have HYL:=Lib.hid hyL
     have HBA:=Lib.hid hBA
     have HOA:=Lib.hid hOA
     have HTA:=Lib.hid hTA
     rw [hOA] at c1
     rw [hTA] at c0
     obtain ⟨zn,hzn⟩:∃ zn,zn=(zz && bO):=⟨_,rfl⟩
     have HZN:=Lib.hid hzn
     clear CN hbO hbO2 hSay hl1 hl2 htv hyL hy hzz hyH hOA hTA
     rw [hBA]
     clear hBA
     go_upto_region 17 with fail
     go_cut [13] from 56 to 66 (fun v13 wc=>v13=.bool zn∧wc=w6)
     case first =>
      cases zz
      ·go_wp2_with fail
       go_meet
       exact ⟨by rw [HZN.out];rfl,rfl⟩
      ·go_wp2_with fail
       go_meet
       exact ⟨by rw [HZN.out];rfl,rfl⟩
     case rest =>
     obtain ⟨rfl,hwc⟩:=hcut
     rw [hwc]
     clear hwc c1 cO hnO hzn
     by_cases h0:nn=0
     ·have e1:decide ((0:Int) < (nn:Int))=false:=decide_eq_false (by omega)
      have e2:decide (0 < nn)=false:=decide_eq_false (by omega)
      have HT2:=Lib.hid (show ts.map TV.pr=(K.rtours x.nd x.l x.ss x.r d (s + 1)).map fun t=>((t.1:Int),t.2) by rw [HTN.out h0];exact htp.out)
      clear h0 t0 t1 t2 t3 c0
      rw [←HBA.out]
      go_wp2_with fail
      go_roundw
      case rel=>(go_light;exact ⟨s + 1,ts,zn,by go_num,hlt,rfl,hown6,by rw [HZN.out];exact HZ2.out,HT2.out,hmem.out,Nat.le_succ_of_le htl,hbi6⟩)
      case measure=>(go_light;simp [intOf];omega)
     ·have e1:decide ((0:Int) < (nn:Int))=true:=decide_eq_true (by omega)
      have e2:decide (0 < nn)=true:=decide_eq_true (by omega)
      have htp2:=HTV.out h0
      have HT2:=Lib.hid (show (ts ++ [tv]).map TV.pr=(K.rtours x.nd x.l x.ss x.r d (s + 1)).map fun t=>((t.1:Int),t.2) by rw [HTS.out h0,List.map_append,List.map_append,htp.out,List.map_singleton,List.map_singleton,htp2])
      have HM2:=Lib.hid (show ∀ z ∈ ts ++ [tv],∃ b ∈ L,z ∈ b.ts from fun z hz=>by
       rcases List.mem_append.1 hz with hz | hz
       ·exact hmem.out z hz
       ·rw [List.mem_singleton.1 hz];exact ⟨y,HYL.out,HTM.out⟩)
      obtain ⟨w7,hw7⟩:∃ w7:World,w7=w6.alloc (.cells #[.int .i64 tv.sh,.slice tv.A tv.n tv.c,.slice tv.A' tv.n' tv.c',.int .i64 tv.t.end_] 80):=⟨_,rfl⟩
      obtain ⟨g7,hg7⟩:∃ g7,g7=w6.heap.size:=⟨_,rfl⟩
      have b7:Below w6.heap.size w6 w7:=by rw [hw7];exact bel_alloc0 _ _
      have hL7:w7.heap[g7]? = some (.cells #[.int .i64 tv.sh,.slice tv.A tv.n tv.c,.slice tv.A' tv.n' tv.c',.int .i64 tv.t.end_] 80 (0,0)):=by rw [hw7,hg7];exact heap_alloc_new _ _
      have hown7:=own_below hown6 b7
      have hbi7:=bel hbi6 b7
      have hz7:wo.heap.size≤w7.heap.size:=hbi7.size
      have htl6:ts.length≤1000000:=by omega
      have htl2:(ts ++ [tv]).length≤s + 1:=by rw [List.length_append];exact Nat.succ_le_succ htl
      clear h0 htp2
      go_upto_region 15 with (first
       | (at_builtin;rw [←hw7,←hg7];refine app_tour rfl _ _ rfl wo.heap.size _ ts.length ts rfl hown7 g7 tv rfl hL7 htl6 hz7 ?_;intro v8 w8 hown8 hgr8 hat8)
       | fail)
      have hbi8:Below wo.heap.size wo w8:=below_own2 hbi7 hgr8 (fun g e=>(own_in hown7 g e).1)
      have hown8':w8.ownsRow wo.heap.size 80 4 v8 (ts ++ [tv]).length ((ts ++ [tv]).flatMap TV.cells):=by rw [List.length_append];exact hown8
      rw [←HBA.out]
      clear t0 t1 t2 t3 c0 hw7 hg7 hL7 hown7 hown8 hgr8 hat8
      go_wp2_with fail
      go_roundw
      case rel=>(go_light;exact ⟨s + 1,ts ++ [tv],zn,by go_num,hlt,rfl,hown8',by rw [HZN.out];exact HZ2.out,HT2.out,HM2.out,htl2,hbi8⟩)
      case measure=>(go_light;simp [intOf];omega)
    ·have hd:decide ((s:Int) < (x.sn:Int))=false:=decide_eq_false (by omega)
     have hd2:decide (s < x.sn)=false:=decide_eq_false hlt
     have hsl:s=x.ss.length:=by have:=HSN.out;omega
     have HSL:=Lib.hid hsl
     have hbw:=bel hb6 hbi
     clear hsl
     cases zz
     rotate_left
     ·have HX:=Lib.hid (show K.plan x.nd x.l x.ss x.r=(K.rtours x.nd x.l x.ss x.r d x.ss.length,0) from K.plan_found (j:=j) HOK.out (by rw [←HRN.out];exact hm4) (by rw [←HSN.out,←HRN.out];exact hj.out) (by rw [←HSN.out,←HRN.out];have:=hbef.out;rwa [←HSN.out] at this) (by rw [←HSL.out];exact hzz.out.symm))
      obtain ⟨OA,oc,rfl,hRd,hfr⟩:=own_form hown
      have HH3:=Lib.hid (show ∀ y ∈ ts,(Ints wr y.A y.n y.t.stops∧Ints wr y.A' y.n' y.t.times)∧∀ g,Ft y.A y.n g∨Ft y.A' y.n' g→w.heap.size≤g from fun y hy=>by
       obtain ⟨b,hb,hyb⟩:=hmem.out y hy
       refine ⟨((HHS.out b hb).below (bel b3o hbi)).1.2 y hyb,fun g e=>?_⟩
       have h9:=HNW.out b hb g (.inl (.inr ⟨y,hyb,e⟩))
       omega)
      go_wp2_with fail
      go_ret2
      refine ⟨⟨OA,_,oc,ts,by rw [HX.out];rfl,⟨⟨rfl,hRd⟩,fun y hy=>(HH3.out y hy).1⟩,?_,fun g e=>?_,fun y hy=>(HH3.out y hy).2⟩,hbw⟩
      ·rw [HX.out,htp.out,HSL.out]
      ·obtain ⟨-,ad,rfl,e2⟩:=e
       have:=(hfr ad.block rfl).1
       omega
     ·have h3:0 < x.sn:=by
       rcases HCS.out with h | h
       ·exact h
       ·by_cases h9:0 < x.sn
        ·exact h9
        ·have hs0:s=0:=by omega
         have:=hzz.out
         rw [hs0] at this
         cases this
      have CN:=next20_any LA ln lc d x.sn wr (hI.below hbi) hln3 HDM.out (by omega)
      have HEX:=Lib.hid (A.next_exts h3 hj.out)
      obtain ⟨nx,hnx⟩:∃ nx,nx=A.next x.sn d:=⟨_,rfl⟩
      rw [←hnx] at CN HEX
      have HNX:=Lib.hid hnx
      have HNP:=Lib.hid (show A.possible (K.feas x.nd x.l x.ss x.r) x.ss.length d=false by rw [←K.rposs_eq (by rw [←HRN.out];exact hm4) HDR.out,←HSL.out];exact hzz.out.symm)
      have HBF:=Lib.hid (show ∀ e ∈ (A.exts x.sn x.m).take (j + 1),A.possible (K.feas x.nd x.l x.ss x.r) x.ss.length e=false from fun e he=>by
       rw [take_snoc hj.out] at he
       rcases List.mem_append.1 he with he | he
       ·exact hbef.out e he
       ·rw [List.mem_singleton.1 he];exact HNP.out)
      clear hnx hlt hs
      go_wp2_with fail
      refine CN.mono ?_
      have hbw5:=bel hbr hbi
      rintro e w7 ⟨(⟨hnn,rfl⟩ | ⟨d',A',n',c',hnn,rfl,hI',hc'⟩),b7⟩
      ·have HALL:=Lib.hid (show ∀ e ∈ A.exts x.sn x.m,A.possible (K.feas x.nd x.l x.ss x.r) x.ss.length e=false by
        have h9:=HEX.out
        rw [hnn] at h9
        have h8:=List.getElem?_eq_none_iff.1 h9.symm
        have h7:=HBF.out
        rw [List.take_of_length_le h8] at h7
        exact h7)
       have hb7:=bel hbw5 b7
       have HME:=Lib.hid (show rank32 x.sn x.m (.slice none 0 0) (.bool false) w7 < rank32 x.sn x.m (.slice LA ln lc) (.bool true) wo by rw [HRK.out];exact Nat.succ_pos _)
       clear hnn CN
       go_wp2_with fail
       go_roundw
       case rel=>(go_light;exact ⟨hb7,.inl ⟨rfl,HALL.out⟩⟩)
       case measure=>(go_light;exact HME.out)
      ·have hb7:=bel hbw5 b7
       have HME:=Lib.hid (show rank32 x.sn x.m (.slice A' n' c') (.bool true) w7 < rank32 x.sn x.m (.slice LA ln lc) (.bool true) wo by
        rw [HRK.out,rank_of hI']
        have h9:=((A.val_next HDM.out).1 d' (by rw [←HNX.out];exact hnn)).1
        have h8:=A.val_lt HDM.out
        rw [HDL.out] at h8
        omega)
       have HEJ:=Lib.hid (show (A.exts x.sn x.m)[j + 1]? = some d' by rw [←HEX.out];exact hnn)
       clear hnn CN
       go_wp2_with fail
       go_roundw
       case rel=>(go_light;exact ⟨hb7,.inr ⟨j + 1,d',A',n',c',rfl,rfl,hI',HEJ.out,HBF.out⟩⟩)
       case measure=>(go_light;exact HME.out)
namespace K
def upfrom (f b:Nat):List Int:=(List.range' f (b - f)).map fun (i:Nat)=>(i:Int)
theorem upfrom_len (f b:Nat):(upfrom f b).length=b - f:=by unfold upfrom;rw [List.length_map,List.length_range']
theorem upfrom_at {f b i:Nat} (h:i < b - f):(upfrom f b)[i]? = some ((f + i:Nat):Int):=by
 unfold upfrom
 rw [List.getElem?_map,List.getElem?_range' h]
 simp
theorem upfrom_drop (f b i:Nat):(upfrom f b).drop i=upfrom (f + i) b:=by
 apply List.ext_getElem?
 intro k
 rw [List.getElem?_drop]
 by_cases h:i + k < b - f
 ·rw [upfrom_at h,upfrom_at (by omega)]
  congr 2
  omega
 ·rw [List.getElem?_eq_none (by rw [upfrom_len];omega),List.getElem?_eq_none (by rw [upfrom_len];omega)]
theorem upfrom_iota (b:Nat):upfrom 0 b=iota b:=by
 unfold upfrom iota
 rw [Nat.sub_zero,List.range_eq_range']
end K
theorem cell_growT {w w':World} {r:Option Nat} {p:Addr} {v:Value} (h:w.cell? p=some v) (hg:w.grownBy w' r) (hne:r ≠ some p.block):w'.cell? p=some v:=(World.cell?_of_block (hg.block _ (cell_lt h) (fun e=>hne e.symm))).trans h
theorem rd_dropS {w:World} {s n:Nat} {ad:Addr} {xs:List Value} (h:Rd w s (some ad) n xs) {k:Nat} (hk:k≤n):Rd w s (some (ad.add (k * s))) (n - k) (xs.drop (k * s)):=by
 refine ⟨by rw [List.length_drop,h.1,Nat.sub_mul],fun h0=>?_⟩
 obtain ⟨ad',e,hc⟩:=h.2 (by omega)
 injection e with e
 subst e
 refine ⟨_,rfl,fun j u hu=>?_⟩
 rw [List.getElem?_drop] at hu
 rw [add_add]
 exact hc _ u hu
set_option maxRecDepth 100000 in
set_option maxHeartbeats 16000000 in
theorem sets79_any (b:Nat) (hb6:b≤6):∀ (n f:Nat) (A0:Option Addr) (c0:Nat) (w:World),n≤6→f≤b→Ints w A0 (b - f) (K.upfrom f b)→b - f≤c0→Calls Tryz.prog 79 #[.slice A0 (b - f) c0,.int .i64 n] w fun e w'=>RetSets w w' (A.combos b n f) e:=by
 intro n
 induction n with
 | zero =>
  intro f A0 c0 w _ hf hI hc
  have hd:decide ((0:Int)=0)=true:=rfl
  obtain ⟨w1,hw1⟩:∃ w1:World,w1=w.alloc (.cells #[] 3):=⟨_,rfl⟩
  obtain ⟨g,hg⟩:∃ g,g=w.heap.size:=⟨_,rfl⟩
  have b1:Below w.heap.size w w1:=by rw [hw1];exact bel_alloc0 _ _
  have b2:Below w1.heap.size w1 (w1.alloc (.cells #[.slice (some ⟨g,0,none⟩) 0 0] 48)):=bel_alloc0 _ _
  have hgw:w.heap.size≤g:=by rw [hg];exact Nat.le_refl _
  have hz1:w1.heap.size=g + 1:=by rw [hw1,hg];exact World.size_alloc _ _
  have hw1s:w.heap.size≤g + 1:=by rw [←hz1];exact b1.size
  have hr:RowAt (w1.alloc (.cells #[.slice (some ⟨g,0,none⟩) 0 0] 48)) w1.heap.size 1 #[.slice (some ⟨g,0,none⟩) 0 0] [⟨some ⟨g,0,none⟩,0,0,[]⟩]:=⟨heap_alloc_new _ _,rfl,fun k s hk=>by
   cases k with
   | zero=>simp at hk;subst hk;rfl
   | succ k=>simp at hk⟩
  rw [hz1] at hr
  clear hz1
  go_enter Tryz.func79,Tryz.ntmps79
  go_upto_region 2 with fail
  go_wp2_with fail
  rw [←hw1,←hg]
  clear hw1 hg
  go_ret
  exact ⟨⟨_,1,1,[⟨some ⟨g,0,none⟩,0,0,[]⟩],rfl,hr.shs fun s hs=>by rw [List.mem_singleton] at hs;rw [hs];exact ⟨⟨rfl,rfl,fun h=>absurd h (Nat.lt_irrefl 0)⟩,Nat.le_refl _,fun e=>by cases e⟩,Nat.le_refl _,rfl,fun ad e=>(by injection e with e;rw [←e];exact hw1s),fun s hs h0=>(by rw [List.mem_singleton] at hs;rw [hs] at h0;exact absurd h0 (by simp))⟩,bel b1 b2⟩
 | succ n ih =>
  intro f A0 c0 w hn hf hI hc0
  have hd:decide (((n + 1:Nat):Int)=0)=false:=by simp;omega
  have hd2:(((n + 1:Nat):Int) == 0)=false:=by simp;omega
  obtain ⟨N,hNn⟩:∃ N,N=n + 1:=⟨_,rfl⟩
  rw [←hNn] at hd hd2 ⊢
  have kN:IntKind.i64.wrap ((N:Int) - 1)=(n:Int):=by rw [IntWalk.i64_in _ (by omega)];omega
  have HC:=Lib.hid (show A.combos b N f=(List.range' f (b - f)).flatMap fun i=>(A.combos b n (i + 1)).map ((i:Int) :: ·) by rw [hNn];rfl)
  have hN0:((N:Int)=0)=False:=by simp;omega
  obtain ⟨M,hM⟩:∃ M,M=b - f:=⟨_,rfl⟩
  rw [←hM] at hI hc0 HC ⊢
  have hM6:M≤6:=by omega
  have HM:=Lib.hid hM
  clear hNn hM
  go_enter Tryz.func79,Tryz.ntmps79
  go_wp2_with fail
  clear hd hd2 hN0
  go_loopw [5,6] (fun v5 v6 wr=>∃ (i:Nat) (L:List Sh),v6=.int .i64 i∧i≤M∧wr.ownsRow w.heap.size 48 1 v5 L.length (L.map Sh.val)∧RowOk wr v5 L∧NewL w.heap.size L∧Below w.heap.size w wr∧L.length≤64 * i∧Hid (L.map Sh.l=(List.range' f i).flatMap fun i=>(A.combos b n (i + 1)).map ((i:Int) :: ·))) (fun _ v6 _=>M - (intOf v6).toNat)
  case atStart=>exact ⟨0,[],rfl,Nat.zero_le _,World.ownsRow_nil _ _ _ _,fun s hs=>(by cases hs),fun s hs=>(by cases hs),Below.refl _ _,Nat.zero_le _,rfl⟩
  case round =>
   obtain ⟨i,L,rfl,hi,hown,hro,hnw,hbr,hll,hcl⟩:=hrel
   by_cases hlt:i < M
   ·have i0:(0:Int)≤(i:Int):=by omega
    have i1:(i:Int) < (M:Int):=by omega
    have ki:IntKind.i64.wrap ((i:Int) + 1)=(i:Int) + 1:=IntWalk.i64_in _ (by omega)
    have ki3:(0:Int)≤(i:Int) + 1:=by omega
    have ki4:(i:Int) + 1≤(M:Int):=by omega
    have hd:decide ((i:Int) < (M:Int))=true:=decide_eq_true i1
    have hd2:decide (i < M)=true:=decide_eq_true hlt
    have hIr:=hI.below hbr
    obtain ⟨adL,hadL⟩:∃ ad,A0=some ad:=by
     obtain ⟨ad,e,-⟩:=hI.2.2 (by omega)
     exact ⟨ad,e⟩
    obtain ⟨F,hF⟩:∃ F,F=f + i:=⟨_,rfl⟩
    have hFM:F + 1≤b:=by have:=HM.out;omega
    have hbF:b - (F + 1)=M - (i + 1):=by have:=HM.out;omega
    obtain ⟨D,hD⟩:∃ D,D=A.combos b n (F + 1):=⟨_,rfl⟩
    have hDl:D.length≤64:=by rw [hD];exact A.combos_few hb6 (by omega) (by omega)
    have RE:Ints wr (some (adL.add (i + 1))) (M - (i + 1)) (K.upfrom (F + 1) b):=by
     have h:=hIr.2
     rw [hadL] at h
     have h:=rd_dropS h (k:=i + 1) (by omega)
     rw [Nat.mul_one] at h
     refine ⟨by rw [K.upfrom_len,hbF],?_⟩
     have e:intCells (K.upfrom (F + 1) b)=(intCells (K.upfrom f b)).drop (i + 1):=by
      unfold intCells
      rw [←List.map_drop,K.upfrom_drop,hF,Nat.add_assoc]
     rw [e]
     exact h
    have CS:∀ (A1:Option Addr) (c1:Nat),Ints wr A1 (M - (i + 1)) (K.upfrom (F + 1) b)→M - (i + 1)≤c1→Calls Tryz.prog 79 #[.slice A1 (M - (i + 1)) c1,.int .i64 n] wr fun e w'=>RetSets wr w' D e:=fun A1 c1 h1 h2=>by
     have h9:=ih (F + 1) A1 c1 wr (by omega) hFM (by rw [hbF];exact h1) (by rw [hbF];exact h2)
     rw [hbF,←hD] at h9
     exact h9
    have HCS:=Lib.hid CS
    have HD:=Lib.hid hD
    have HF:=Lib.hid hF
    have HRE:=Lib.hid RE
    have HAL:=Lib.hid hadL
    clear hD hF hadL RE CS hbF hIr
    go_upto_region 7 with fail
    rw [HAL.out]
    go_cut [7] from 19 to 25 (fun v7 wc=>∃ E m c l,v7=.slice E m c∧Shs wc E m l∧m≤c∧Hid (l.map Sh.l=D)∧(∀ ad,E=some ad→wr.heap.size≤ad.block)∧NewL wr.heap.size l∧Below wr.heap.size wr wc)
    case first =>
     by_cases hc:c0=i + 1
     ·have hc':(c0=i + 1)=True:=eq_true hc
      have hm0:M - (i + 1)=0:=by omega
      have C9:=HCS.out (some adL) (c0 - (i + 1)) (by
       have h9:=HRE.out
       rw [hm0] at h9 ⊢
       exact ⟨h9.1,h9.2.1,fun h=>absurd h (Nat.lt_irrefl 0)⟩) (by omega)
      clear hc hm0
      go_wp2_with fail
      refine C9.mono ?_
      rintro e w2 ⟨⟨E,m,c,l,rfl,hSl,hmc,hlD,hEn,hln⟩,b2⟩
      have HLD:=Lib.hid hlD
      clear hlD C9
      go_wp2_with fail
      go_meet
      exact ⟨E,m,c,l,rfl,hSl,hmc,HLD.out,hEn,hln,b2⟩
     ·have hc':(c0=i + 1)=False:=eq_false hc
      have hadd:adL.add (i + 1)=⟨adL.block,adL.off + (i + 1),none⟩:=by unfold Addr.add;simp
      have C9:=HCS.out (some ⟨adL.block,adL.off + (i + 1),none⟩) (c0 - (i + 1)) (by rw [←hadd];exact HRE.out) (by omega)
      clear hc hadd
      go_wp2_with fail
      refine C9.mono ?_
      rintro e w2 ⟨⟨E,m,c,l,rfl,hSl,hmc,hlD,hEn,hln⟩,b2⟩
      have HLD:=Lib.hid hlD
      clear hlD C9
      go_wp2_with fail
      go_meet
      exact ⟨E,m,c,l,rfl,hSl,hmc,HLD.out,hEn,hln,b2⟩
    case rest =>
    obtain ⟨E,m,c,l,rfl,hSl,hmc,hlD,hEn,hln,b2⟩:=hcut
    rw [←HAL.out]
    obtain ⟨w2,hw2⟩:∃ w2,w2=wc:=⟨_,rfl⟩
    rw [←hw2] at hSl b2
    rw [←hw2]
    clear hw2
    have hml:m≤64:=by rw [hSl.1.1,←List.length_map (f:=Sh.l),hlD.out];exact hDl
    have hl6:∀ s ∈ l,s.n≤6:=fun s hs=>by
     rw [(hSl.2 s hs).1.1]
     have h9:s.l ∈ A.combos b n (F + 1):=by rw [←HD.out,←hlD.out];exact List.mem_map_of_mem hs
     have:=(A.mem_combos.1 h9).1
     omega
    have FE:0 < m→∀ ad,E=some ad→wr.heap.size≤ad.block∧ad.block < w2.heap.size:=fun h0 ad e=>by
     obtain ⟨ad',s,e',-,-,hc⟩:=hSl.at_ h0
     rw [e] at e'
     injection e' with e'
     exact ⟨hEn ad e,by rw [e'];exact cell_lt hc⟩
    have FL:∀ s ∈ l,0 < s.n→∀ ad,s.A=some ad→wr.heap.size≤ad.block∧ad.block < w2.heap.size:=fun s hs h0 ad e=>⟨hln s hs h0 ad e,(hSl.2 s hs).1.lt_of h0 e⟩
    have hob:∀ g,u5.ownBlock=some g→g < wr.heap.size:=fun g e=>(own_in hown g e).2
    have hown2:=own_below hown b2
    have hro2:=hro.below b2
    have hb2:=bel hbr b2
    have hwr2:=b2.size
    have hFI:((f + i:Nat):Int)=(F:Int):=by rw [HF.out]
    obtain ⟨z,hz⟩:∃ z:Int,z=(F:Int):=⟨_,rfl⟩
    have HZ:=Lib.hid hz
    have HIZ:=Lib.hid (show (K.upfrom f b)[i]? = some z by rw [K.upfrom_at (by have:=HM.out;omega),hFI,hz])
    clear HCS HRE hown hro hbr b2 hEn hln hFI hz hd hd2
    go_wp2_with fail
    obtain ⟨W2,hW2⟩:∃ z,z=w2.heap.size:=⟨_,rfl⟩
    obtain ⟨WQ,hWQ⟩:∃ z,z=wr.heap.size:=⟨_,rfl⟩
    rw [←hW2,←hWQ] at FE FL hwr2
    rw [←hWQ] at hob
    go_loopw [5,8] (fun v5 v8 wi=>∃ (j:Nat) (L':List Sh),v8=.int .i64 j∧j≤m∧wi.ownsRow w.heap.size 48 1 v5 L'.length (L'.map Sh.val)∧RowOk wi v5 L'∧NewL w.heap.size L'∧Below w.heap.size w wi∧W2≤wi.heap.size∧Hid (L'.length=L.length + j)∧Shs wi E m l∧(∀ g,v5.ownBlock=some g→g < WQ∨W2≤g)∧Hid (L'.map Sh.l=L.map Sh.l ++ (l.take j).map fun s=>z :: s.l)) (fun _ v8 _=>m - (intOf v8).toNat)
    case atStart=>exact ⟨0,L,rfl,Nat.zero_le _,hown2,hro2,hnw,hb2,Nat.le_of_eq hW2,rfl,hSl,fun g e=>.inl (hob g e),by show _=_;rw [List.take_zero];simp⟩
    case round =>
     clear hown2 hro2 hW2
     obtain ⟨j,L',rfl,hj,hownI,hroI,hnwI,hbI,hWI,hlI,hSI,hobI,hcI⟩:=hrel
     by_cases hjm:j < m
     ·obtain ⟨adE,s,hEA,hg,⟨hsI,hsc,hs0⟩,hc⟩:=hSI.at_ hjm
      have j0:(0:Int)≤(j:Int):=by omega
      have j1:(j:Int) < (m:Int):=by omega
      have jd:decide ((j:Int) < (m:Int))=true:=decide_eq_true j1
      have jd2:decide (j < m)=true:=decide_eq_true hjm
      have hsm:=List.mem_of_getElem? hg
      have h6:=hl6 s hsm
      have HG:=Lib.hid hg
      have HSM:=Lib.hid hsm
      obtain ⟨adL',z',hAL',hz',cz0⟩:=hI.at_ (show i < M from hlt)
      have cz:=(hbI.cell (cell_lt cz0)).trans cz0
      have NL:u5.ownBlock ≠ some (adL'.add i).block:=fun e=>by
       have h1:=(own_in hownI _ e).1
       have h2:=cell_lt cz0
       omega
      have NE:u5.ownBlock ≠ some (adE.add j).block:=fun e=>by
       rw [add_block] at e
       have h1:=hobI _ e
       have h2:=FE (by omega) adE hEA
       omega
      rw [HIZ.out] at hz'
      injection hz' with hz'
      subst hz'
      have hn8:L'.length≤1000000:=by have:=hlI.out;omega
      have hWW:Below wr.heap.size wr wr:=Below.refl _ _
      have Fd:Below wr.heap.size wr wr.drew:=hWW.drew
      have Fz:Below wr.heap.size wr (wr.alloc (.cells #[.int .i64 z] 3)):=bel_alloc0 _ _
      have hmk:∀ w',Below wr.heap.size wr w'→(fun w':World=>w'.cell? (adL'.add i)=some (.int .i64 z)∧w'.cell? (adE.add j)=some (.slice s.A s.n s.c)) w':=fun w' h=>⟨(h.cell (cell_lt cz)).trans cz,(h.cell (cell_lt hc)).trans hc⟩
      have HMK:=Lib.hid hmk
      have S0:=HMK.out _ hWW
      have S0d:=HMK.out _ Fd
      have S0z:=HMK.out _ Fz
      have S0zd:=HMK.out _ Fz.drew
      obtain ⟨i3,hi3,ha0,ha1,ha2⟩:=info_parts Tryz.info3
      obtain ⟨i48,hi48,hb0,hb1,hb2⟩:=info_parts Tryz.info48
      have hone:∀ u ∈ intCells s.l,u.oneCell'=true:=intCells_one _
      have hm63:1 + s.n≤maxLen:=by simp only [maxLen];omega
      have hm47:(1 + s.n) * 8≤140737488355328:=by omega
      have hn63:L'.length + 1≤maxLen:=by simp only [maxLen];omega
      have hn47:(L'.length + 1) * 24≤140737488355328:=by omega
      have Cz:∀ g,(Value.slice (some ⟨wr.heap.size,0,none⟩) 1 1).ownBlock=some g→wr.heap.size≤g:=fun g e=>by injection e with e;rw [←e];exact Nat.le_refl _
      have Oa:(wr.alloc (.cells #[.int .i64 z] 3)).drew.ownsRow wr.heap.size 3 1 (.slice (some ⟨wr.heap.size,0,none⟩) 1 1) 1 [.int .i64 z]:=⟨rfl,.inr ⟨wr.heap.size,1,_,rfl,Nat.le_refl _,heap_alloc_new wr (.cells #[.int .i64 z] 3),Nat.le_refl _,by simp [maxLen],rfl,rfl⟩⟩
      have Ra:=hsI.2.below Fz.drew
      have Oz:True:=trivial
      have hwbI:=hbI.size
      rw [hEA,hAL']
      have HEA:=Lib.hid hEA
      have HAL':=Lib.hid hAL'
      clear hg h6 hsm hmk hEA hAL' cz cz0 hc
      go_upto_region 11 with fail
      go_region_held3 (fun w':World=>w'.cell? (adL'.add i)=some (.int .i64 z)∧w'.cell? (adE.add j)=some (.slice s.A s.n s.c))
       (first | with_reducible exact S7 | with_reducible exact S6x | with_reducible exact S6 | with_reducible exact S0zd | with_reducible exact S0z | with_reducible exact S0d | with_reducible exact S0 | fail)
       (first
        | (have h0:=Oz;clear Oz;apply step_append_rd (hgd:=rfl) (s:=.tmp 37) (x:=.tmp 41) (t:=48) (ho:=rfl) (base:=wr.heap.size) (e:=3) (i:=i3) (z:=(.int .i64 0)) (size:=1) (bytes:=8) (ht:=Tryz.underlying48) (hi:=hi3) (hz:=ha0) (hsize:=ha1) (hby:=ha2) (hzs:=rfl) (hsz:=by decide) (v:=.slice (some ⟨_,0,none⟩) 1 1) (n:=1) (xs:=[.int .i64 z]) (hs:=rfl) (A:=s.A) (m:=s.n) (c:=s.c) (news:=intCells s.l) (hown:=Oa) (hr:=Ra) (hbase:=Fz.drew.size) (hx:=rfl) (h1:=hone) (h63:=hm63) (hbytes:=hm47);intro v6 w6 hown6 hgr6 hat6;obtain ⟨B6,c6,rfl,hRd6,hF6⟩:=own_form hown6;have b6r:Below wr.heap.size wr w6:=below_own2 Fz.drew hgr6 Cz;have S6:=HMK.out _ b6r;have F6x:Below w6.heap.size w6 (w6.alloc (.cells #[.slice B6 (1 + s.n) c6] 48)):=bel_alloc0 _ _;have b6x:=bel b6r F6x;have S6x:=HMK.out _ b6x;have hcap6:=own_cap hown6;have O6:=own_below hownI b6x;have Z6:=Nat.le_trans hwbI b6x.size;have R6:Rd (w6.alloc (.cells #[.slice B6 (1 + s.n) c6] 48)) 1 (some ⟨w6.heap.size,0,none⟩) 1 [.slice B6 (1 + s.n) c6]:=Rd.of_block (heap_alloc_new w6 _) 1 1 rfl;have O1:∀ u ∈ [Value.slice B6 (1 + s.n) c6],u.oneCell'=true:=(fun u hu=>by rw [show u=.slice B6 (1 + s.n) c6 from List.mem_singleton.1 hu];rfl))
        | (have h9:=O6;clear O6;apply step_append_rd (hgd:=rfl) (s:=.tmp 32) (x:=.tmp 43) (t:=97) (ho:=rfl) (base:=w.heap.size) (e:=48) (i:=i48) (z:=(.slice none 0 0)) (size:=1) (bytes:=24) (ht:=Tryz.underlying97) (hi:=hi48) (hz:=hb0) (hsize:=hb1) (hby:=hb2) (hzs:=rfl) (hsz:=by decide) (v:=u5) (n:=L'.length) (xs:=L'.map Sh.val) (hs:=rfl) (A:=some ⟨w6.heap.size,0,none⟩) (m:=1) (c:=1) (news:=[.slice B6 (1 + s.n) c6]) (hown:=h9) (hr:=R6) (h1:=O1) (hbase:=Z6) (hx:=rfl) (h63:=hn63) (hbytes:=hn47);intro v7 w7 hown7 hgr7 hat7;have S7:=And.intro (cell_growT S6x.1 hgr7 NL) (cell_growT S6x.2 hgr7 NE))
        | fail)
      have hBl:∀ ad,B6=some ad→wr.heap.size≤ad.block∧ad.block < w6.heap.size:=fun ad e=>hF6 ad.block (by rw [e];rfl)
      have h6l:(w6.alloc (.cells #[.slice B6 (1 + s.n) c6] 48)).heap.size=w6.heap.size + 1:=World.size_alloc _ _
      have hI6:Ints w6 B6 (1 + s.n) (z :: s.l):=⟨by rw [List.length_cons,←hsI.1];omega,hRd6⟩
      have hgr7z:=hgr7.size
      have h7:=own_in hownI
      have h6z:=b6r.size
      have hBn:B6=none→(1 + s.n)=0∧c6=0:=fun e=>by
       obtain ⟨ad,e2,-⟩:=hRd6.2 (by omega)
       rw [e] at e2
       cases e2
      have HCI:=Lib.hid (show (L' ++ [(⟨B6,1 + s.n,c6,z :: s.l⟩:Sh)]).map Sh.l=L.map Sh.l ++ (l.take (j + 1)).map fun s=>z :: s.l by
       rw [List.map_append,hcI.out,List.take_add_one,HG.out]
       simp)
      have HRO:=Lib.hid (show RowOk w7 v7 (L' ++ [(⟨B6,1 + s.n,c6,z :: s.l⟩:Sh)]) from by
       refine ((hroI.below b6x).grow hgr7 hat7).snoc ⟨(hI6.below F6x).grow hgr7 fun _ ad e e2=>?_,hcap6,hBn⟩ (fun _ ad e e2=>?_)
       ·have h1:=(hBl ad e).1
        have h2:=(h7 _ e2.symm).2
        omega
       ·have h1:=hBl ad e
        rcases hat7 with e3 | e3
        ·rw [e3] at e2
         have h2:=(h7 _ e2).2
         omega
        ·rw [e3] at e2
         injection e2 with e2
         omega)
      have HSh:=Lib.hid (show Shs w7 E m l from (hSI.below b6x).grown hgr7 (fun h0 ad e e2=>by
        have a1:=FE h0 ad e
        have a2:=hobI _ e2.symm
        omega) (fun t ht h0 ad e e2=>by
        have a1:=FL t ht h0 ad e
        have a2:=hobI _ e2.symm
        omega))
      have hb7:Below w.heap.size w w7:=below_own2 (bel hbI b6x) hgr7 (fun g e=>(h7 g e).1)
      have hob7:∀ g,v7.ownBlock=some g→g < WQ∨W2≤g:=fun g e=>by
       rcases hat7 with e3 | e3
       ·rw [e3] at e
        exact hobI g e
       ·rw [e3] at e
        injection e with e
        omega
      have hnw7:=hnwI.snoc (y:=⟨B6,1 + s.n,c6,z :: s.l⟩) (fun _ ad e=>by
       have h1:=(hBl ad e).1
       omega)
      have hown7':w7.ownsRow w.heap.size 48 1 v7 (L' ++ [(⟨B6,1 + s.n,c6,z :: s.l⟩:Sh)]).length ((L' ++ [(⟨B6,1 + s.n,c6,z :: s.l⟩:Sh)]).map Sh.val):=by
       rw [List.length_append,List.map_append]
       exact hown7
      have HLL:=Lib.hid (show (L' ++ [(⟨B6,1 + s.n,c6,z :: s.l⟩:Sh)]).length=L.length + (j + 1) by rw [List.length_append,hlI.out];rfl)
      have hW7:W2≤w7.heap.size:=by omega
      clear S0 S0d S0z S0zd S6 S6x S7 hone hm63 hm47 hn63 hn47 Cz Oa Ra Fd Fz hWW F6x b6x hcap6 Z6 hown7 hgr7 hat7 hRd6 hF6 hI6 hBn h9 h0
      go_wp2_with fail
      go_roundw
      case rel=>(go_light;exact ⟨j + 1,_,by go_num,hjm,hown7',HRO.out,hnw7,hb7,hW7,HLL.out,by first | exact HSh.out | (rw [←HEA.out];exact HSh.out),hob7,HCI.out⟩)
      case measure=>(go_light;simp [intOf];omega)
     ·have jd:decide ((j:Int) < (m:Int))=false:=decide_eq_false (by omega)
      have jd2:decide (j < m)=false:=decide_eq_false hjm
      have HJ:=Lib.hid (show j=m by omega)
      have hL64:L'.length≤64 * (i + 1):=by have:=hlI.out;omega
      have HCL:=Lib.hid (show L'.map Sh.l=(List.range' f (i + 1)).flatMap fun i=>(A.combos b n (i + 1)).map ((i:Int) :: ·) by
       have hm:m=l.length:=hSl.1.1
       rw [hcI.out,HJ.out,hm,List.take_length,A.range_snoc,List.flatMap_append,←hcl.out,List.flatMap_singleton,←HF.out,←HD.out,←hlD.out,List.map_map,HZ.out]
       rfl)
      go_wp2_with fail
      go_roundw
      case rel=>(go_light;exact ⟨i + 1,L',by go_num,hlt,hownI,hroI,hnwI,hbI,hL64,HCL.out⟩)
      case measure=>(go_light;simp [intOf];omega)
   ·have hd:decide ((i:Int) < (M:Int))=false:=decide_eq_false (by omega)
    have hd2:decide (i < M)=false:=decide_eq_false hlt
    have HIM:=Lib.hid (show i=M by omega)
    go_wp2_with fail
    go_ret
    obtain ⟨E,c,rfl,hS,hc,hE⟩:=own_shs hown rfl hro
    refine ⟨⟨E,_,c,L,rfl,hS,hc,?_,hE,hnw⟩,hbr⟩
    rw [hcl.out,HC.out,HIM.out]
end Go.Proofs.YtippdjmpkafifaaGreat
