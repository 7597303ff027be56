import Derived.Test.YtippdjmpkafifaaGreatCK17
import Derived.Deep.Light
namespace Go.Proofs.YtippdjmpkafifaaGreat
open Go.RowKit
theorem way_read {nd:Int} {l:List Ro} {a k:Int} {tg:Nat} {w:World} {A:Option Addr} {n:Nat} (hI:Ints w A n (K.times nd l a k)) (hne:K.netErr nd l=0) (ha:0≤a∧a < nd) (htg:(tg:Int) < nd) :
  ∃ ad,A=some ad∧w.cell? (ad.add tg)=some (.int .i64 (K.way nd l a k (tg:Int)))∧(tg:Int) < (n:Int):=by
 have hn:n=nd.toNat:=by rw [hI.1];exact K.times_len hne ha
 have hdt:tg < n:=by omega
 obtain ⟨ad,y,rfl,hy,cy⟩:=hI.at_ hdt
 refine ⟨ad,rfl,?_,by omega⟩
 rw [cy]
 unfold K.way G.at_
 rw [Int.toNat_natCast,hy]
 rfl
set_option maxRecDepth 100000 in
set_option maxHeartbeats 16000000 in
theorem arrival_any (x:C) (V:Option Addr) (vn vc:Nat) (v:List Int) (A:Option Addr) (tn tc:Nat) (ts:List Int) (m tg:Nat) (w:World) (hok:K.ok31 x.nd x.l x.s x.r v=true) (hx:At w x) (hV:Ints w V vn v) (hT:Ints w A tn ts)
  (hts:∀ i,i < vn→∃ y,ts[m * 6 + i]? = some y∧(m.testBit i=true→y=K.lab x.nd x.l x.s x.r v m i)) (hm:m < 64) (hto:(tg:Int) < x.nd) :
  Calls Tryz.prog 184 #[.agg #[.int .i64 x.nd,.slice x.A x.n x.c],.agg #[.int .i64 x.s.day,.int .i64 x.s.depot,.int .i64 x.s.start,.int .i64 x.s.end_,.int .i64 x.s.tare,.slice x.s.A x.s.n x.s.c],.slice x.B x.m x.d,.slice V vn vc,.slice A tn tc,.int .i64 m,.int .i64 tg] w fun e w'=>e=.returned (.int .i64 (K.locF x.nd x.l x.s x.r v m tg))∧Below w.heap.size w w':=by
 obtain ⟨w1,hw1⟩:∃ w1:World,w1=w.alloc (.cells #[.int .i64 x.nd,.slice x.A x.n x.c] 24):=⟨_,rfl⟩
 obtain ⟨w2,hw2⟩:∃ w2:World,w2=w1.alloc (.cells #[.int .i64 x.s.day,.int .i64 x.s.depot,.int .i64 x.s.start,.int .i64 x.s.end_,.int .i64 x.s.tare,.slice x.s.A x.s.n x.s.c] 63):=⟨_,rfl⟩
 have z1:w1.heap.size=w.heap.size + 1:=by rw [hw1];exact World.size_alloc _ _
 have b01:Below w.heap.size w w1:=by rw [hw1];exact (Below.refl _ _).alloc (Nat.le_refl _) _
 have b12:Below w1.heap.size w1 w2:=by rw [hw2];exact (Below.refl _ _).alloc (Nat.le_refl _) _
 have hP:Net w2 w.heap.size x.nd x.A x.n x.c:=by
  have h1:Net w1 w.heap.size x.nd x.A x.n x.c:=by rw [hw1];exact Net.new _ _ _ _ _
  exact h1.below b12
 have hS:Shf w2 (w.heap.size + 1) x.s:=by rw [←z1,hw2];exact Shf.new _ _
 have hb:=bel b01 b12
 have HOK:=Lib.hid hok
 have HC:=Lib.hid (K.case31 hok)
 have HVN:=Lib.hid hV.1
 have hv6:vn≤6:=by rw [hV.1];exact (K.ok31_parts hok).2.2.2.2.1
 obtain ⟨hne,hck,hdp,-,-,-⟩:=K.ok31_parts hok
 obtain ⟨-,⟨d0,-⟩,st0,st1,en1⟩:=K.check_parts hck
 have HNE:=Lib.hid hne
 have HTS:=Lib.hid hts
 clear hne hck hok hts
 go_enter Tryz.func184,Tryz.ntmps184
 go_wp2_with fail
 rw [←hw1,←hw2]
 clear hw1 hw2 z1 b01 b12
 have hmk:∀ w',Below w2.heap.size w2 w'→(fun w':World=>Below w2.heap.size w2 w'∧w'.cell? ⟨w.heap.size + 1,0,none⟩=some (.int .i64 x.s.day)∧w'.cell? ⟨w.heap.size + 1,1,none⟩=some (.int .i64 x.s.depot)∧w'.cell? ⟨w.heap.size + 1,2,none⟩=some (.int .i64 x.s.start)∧w'.cell? ⟨w.heap.size + 1,3,none⟩=some (.int .i64 x.s.end_)∧w'.cell? ⟨w.heap.size + 1,4,none⟩=some (.int .i64 x.s.tare)∧w'.cell? ⟨w.heap.size + 1,5,none⟩=some (.slice x.s.A x.s.n x.s.c)) w':=fun w' h=>⟨h,(hS.below h).cells⟩
 have S0:=hmk _ (Below.refl _ _)
 have hSd:∀ w',(fun w':World=>Below w2.heap.size w2 w'∧w'.cell? ⟨w.heap.size + 1,0,none⟩=some (.int .i64 x.s.day)∧w'.cell? ⟨w.heap.size + 1,1,none⟩=some (.int .i64 x.s.depot)∧w'.cell? ⟨w.heap.size + 1,2,none⟩=some (.int .i64 x.s.start)∧w'.cell? ⟨w.heap.size + 1,3,none⟩=some (.int .i64 x.s.end_)∧w'.cell? ⟨w.heap.size + 1,4,none⟩=some (.int .i64 x.s.tare)∧w'.cell? ⟨w.heap.size + 1,5,none⟩=some (.slice x.s.A x.s.n x.s.c)) w'→(fun w':World=>Below w2.heap.size w2 w'∧w'.cell? ⟨w.heap.size + 1,0,none⟩=some (.int .i64 x.s.day)∧w'.cell? ⟨w.heap.size + 1,1,none⟩=some (.int .i64 x.s.depot)∧w'.cell? ⟨w.heap.size + 1,2,none⟩=some (.int .i64 x.s.start)∧w'.cell? ⟨w.heap.size + 1,3,none⟩=some (.int .i64 x.s.end_)∧w'.cell? ⟨w.heap.size + 1,4,none⟩=some (.int .i64 x.s.tare)∧w'.cell? ⟨w.heap.size + 1,5,none⟩=some (.slice x.s.A x.s.n x.s.c)) w'.drew:=fun w' h=>hmk _ h.1.drew
 have hVx:∀ w',Below w2.heap.size w2 w'→Ints w' V vn v:=fun w' h=>(hV.below hb).below h
 have hAr:∀ w',Below w2.heap.size w2 w'→Ints w' x.s.A x.s.n x.s.l:=fun w' h=>((hx.below hb).below h).rooms
 have hAq:∀ w',Below w2.heap.size w2 w'→Reqs w' x.B x.m x.r:=fun w' h=>((hx.below hb).below h).reqs
 have hr256:m < 256:=by omega
 have hv8:vn≤8:=by omega
 have hpl:(K.part v m).length≤1000000000:=by have h1:=K.part_len v m;rw [←HVN.out] at h1;omega
 go_region_held3 (fun w':World=>Below w2.heap.size w2 w'∧w'.cell? ⟨w.heap.size + 1,0,none⟩=some (.int .i64 x.s.day)∧w'.cell? ⟨w.heap.size + 1,1,none⟩=some (.int .i64 x.s.depot)∧w'.cell? ⟨w.heap.size + 1,2,none⟩=some (.int .i64 x.s.start)∧w'.cell? ⟨w.heap.size + 1,3,none⟩=some (.int .i64 x.s.end_)∧w'.cell? ⟨w.heap.size + 1,4,none⟩=some (.int .i64 x.s.tare)∧w'.cell? ⟨w.heap.size + 1,5,none⟩=some (.slice x.s.A x.s.n x.s.c))
  (first | assumption | exact S0 | exact hSd _ (by assumption))
  (first
   | (go_at_call 183;refine (part31_any V vn vc v m _ (hVx _ (And.left (by assumption))) hv8 hr256).mono ?_;rintro e wb ⟨⟨RA,rn,rc,rfl,hR⟩,bb⟩;have S1:=hmk _ (bel (And.left (by assumption)) bb);have hrn:rn≤1000000000:=by (rw [hR.1];exact hpl))
   | (go_at_call 146;refine (rweight_any x.s x.B x.m x.d x.r RA rn rc (K.part v m) _ (hAr _ S1.1) hx.b2 (hAq _ S1.1) hx.b3 hx.b4 hR hrn).mono ?_;rintro e wc ⟨rfl,bc⟩;have S2:=hmk _ (bel S1.1 bc))
   | fail)
 obtain ⟨wt,hwt⟩:∃ wt,wt=T.weight x.s x.r (K.part v m):=⟨_,rfl⟩
 rw [←hwt]
 have HWT:=Lib.hid hwt
 have b2c:=S2.1
 have hP:=hP.below b2c
 have hS:=hS.below b2c
 have hb:=bel hb b2c
 clear S0 S1 S2 hSd hmk hVx hAr hAq hR hrn hpl hwt bb bc b2c hr256 hv8
 have p0:=hP.c0
 have p1:=hP.c1
 obtain ⟨s0,s1,s2,s3,s4,s5⟩:=hS.cells
 have k3:(0:Int)≤(tg:Int):=by omega
 by_cases hm0:m=0
 ·subst hm0
  have hF:=K.locF_zero (nd:=x.nd) (l:=x.l) (s:=x.s) (r:=x.r) (v:=v) (tg:Int)
  rw [←HWT.out] at hF
  go_wp2_with fail
  refine (rtimes_any x.nd x.A x.n x.c x.l x.s.depot wt _ (hx.below hb).net hx.b1).mono ?_
  rintro e wy ⟨⟨TA,yn,yc,rfl,hTI⟩,bwy⟩
  obtain ⟨y,hway⟩:∃ y,y=K.way x.nd x.l x.s.depot wt (tg:Int):=⟨_,rfl⟩
  obtain ⟨ady,rfl,cy,j4⟩:=way_read hTI HNE.out ⟨d0,hdp⟩ hto
  have hyb:=K.way_bd x.nd x.l x.s.depot wt (tg:Int)
  rw [←hway] at hyb hF cy
  have s2:=((hS.below bwy).cells).2.2.1
  clear hway hTI p0 p1 s0 s1 s3 s4 s5
  have hsm:IntKind.i64.wrap (x.s.start + y)=x.s.start + y:=IntWalk.i64_in _ (by omega)
  have hsm2:wrap64 (x.s.start + y)=x.s.start + y:=by rw [←IntWalk.i64_left];exact hsm
  by_cases hy0:y < 0
  ·have c1:decide (y < 0)=true:=decide_eq_true hy0
   rw [if_pos hy0] at hF
   have HF:=Lib.hid hF
   clear hF
   go_wp2_with fail
   go_ret
   exact ⟨by rw [HF.out];rfl,bel hb bwy⟩
  ·have c1:decide (y < 0)=false:=decide_eq_false hy0
   rw [if_neg hy0,if_neg (by omega)] at hF
   have HF:=Lib.hid hF
   clear hF
   go_wp2_with fail
   go_ret
   exact ⟨by rw [HF.out];rfl,bel hb bwy⟩
 ·have hm0b:((m:Int) == 0)=false:=by simp;exact hm0
  have hm0n:(m == 0)=false:=by simp;exact hm0
  go_wp2_with fail
  have HP:=Lib.hid hP
  have HS:=Lib.hid hS
  have HB:=Lib.hid hb
  clear hb hP hS p0 p1 s0 s1 s2 s3 s4 s5
  go_loopw [17,18] (fun v17 v18 wr=>∃ (i:Nat) (f:Int),v17=.int .i64 f∧v18=.int .i64 i∧i≤vn∧Hid (f=K.locGo x.nd x.l x.s x.r v m (tg:Int) i)∧Below wc.heap.size wc wr) (fun _ v18 _=>vn - (intOf v18).toNat)
  case atStart=>exact ⟨0,-1,rfl,rfl,by omega,rfl,Below.refl _ _⟩
  case round =>
   obtain ⟨i,f,rfl,rfl,hi,hf,hbr⟩:=hrel
   have hb:=bel HB.out hbr
   have hfb:=K.locGo_bd HC.out m (tg:Int) i
   rw [←hf.out] at hfb
   by_cases hlt:i < vn
   ·obtain ⟨z,hz,hzi⟩:=HTS.out i hlt
    have HZI:=Lib.hid hzi
    clear hzi
    obtain ⟨m6,hm6⟩:∃ m6:Nat,m6=m * 6:=⟨_,rfl⟩
    obtain ⟨j,hj⟩:∃ j:Nat,j=m6 + i:=⟨_,rfl⟩
    rw [←hm6,←hj] at hz
    have hmt:j < tn:=by rw [hT.1];exact (List.getElem?_eq_some_iff.1 hz).1
    obtain ⟨adt,z2,rfl,hz2,cz⟩:=(hT.below hb).at_ hmt
    rw [hz] at hz2
    injection hz2 with hz2
    subst hz2
    have kw1:IntKind.i64.wrap ((m:Int) * 6)=(m6:Int):=by rw [IntWalk.i64_in _ (by omega)];omega
    have kw3:IntKind.i64.wrap ((m6:Int) + (i:Int))=(j:Int):=by rw [IntWalk.i64_in _ (by omega)];omega
    have kk0:(0:Int)≤(j:Int):=by omega
    have kk1:(j:Int) < (tn:Int):=by omega
    have kk2:(0:Int)≤(i:Int):=by omega
    have kk3:(i:Int) < (vn:Int):=by omega
    have hi8:i < 8:=by omega
    have hm256:m < 256:=by omega
    have hlt':decide (i < vn)=true:=decide_eq_true hlt
    have hlti:decide ((i:Int) < (vn:Int))=true:=decide_eq_true kk3
    clear hz hm6 hj hmt
    go_upto_region 12 with fail
    clear kw1 kw3 kk0 kk1 cz
    cases hbit:m.testBit i
    ·have hb1:bits BinOp.and IntKind.i64 ((m:Int) / 2 ^ i) 1=0:=by rw [bit_at hm256 hi8,hbit];rfl
     have HF:=Lib.hid (show f=K.locGo x.nd x.l x.s x.r v m (tg:Int) (i + 1) by rw [K.locGo_skip (K.lab_no hbit)];exact hf.out)
     clear hf
     go_wp2_with fail
     clear hb1
     go_roundw
     case rel=>(go_light;exact ⟨i + 1,f,rfl,by go_num,hlt,HF.out,hbr⟩)
     case measure=>(go_light;simp [intOf] <;> omega)
    ·have hb1:bits BinOp.and IntKind.i64 ((m:Int) / 2 ^ i) 1=1:=by rw [bit_at hm256 hi8,hbit];rfl
     have hzl:=HZI.out hbit
     have hlb:=K.lab_bd (nd:=x.nd) (l:=x.l) (s:=x.s) (r:=x.r) HC.out m i
     rw [←hzl] at hlb
     have HZL:=Lib.hid hzl
     clear hzl
     by_cases hz0:0≤z
     ·have c1:decide (0≤z)=true:=decide_eq_true hz0
      go_upto_region 13 with fail
      clear hb1 hbit
      obtain ⟨adv,k,rfl,hki,ci⟩:=(hV.below hb).at_ hlt
      obtain ⟨hk0,hk1,hkn⟩:=K.setGo_nodes _ _ (K.ok31_parts HOK.out).2.2.2.2.2 _ (List.mem_of_getElem? hki)
      obtain ⟨j,rfl⟩:∃ j:Nat,k=(j:Int):=⟨k.toNat,by omega⟩
      have hjm:j < x.m:=by rw [hx.reqs.1];omega
      obtain ⟨adq,q,hqB,hgq,-,e0,-⟩:=((hx.below hb).reqs).at_ hjm
      have HQB:=Lib.hid hqB
      have HKI:=Lib.hid hki
      have hrq:=K.req_get hgq
      rw [hrq] at hkn
      have HRQ:=Lib.hid hrq
      have hqn:0≤q.node:=by
       have h1:=(K.ok31_parts HOK.out).2.2.2.1 q (List.mem_of_getElem? hgq)
       exact (K.right_req h1).1.1
      have hP:=HP.out.below hbr
      have p0:=hP.c0
      have p1:=hP.c1
      have hRd:∀ w',Below wr.heap.size wr w'→Roads w' x.A x.n x.l:=fun w' h=>Lst.below ((hx.below hb).net) h
      obtain ⟨y,hway⟩:∃ y,y=K.way x.nd x.l q.node wt (tg:Int):=⟨_,rfl⟩
      have hyb:=K.way_bd x.nd x.l q.node wt (tg:Int)
      rw [←hway] at hyb
      have HWY:=Lib.hid hway
      have j1:(j:Int) < (x.m:Int):=by omega
      have j2:(0:Int)≤(j:Int):=by omega
      rw [hqB]
      clear hP hki hgq hqB hrq hway hjm hk0 hk1
      go_cut [20] from 65 to 78 (fun v20 wx=>v20=.int .i64 y∧Below wc.heap.size wc wx)
      case first =>
       go_region_with (first | (go_at_call 147;refine (rtimes_any x.nd x.A x.n x.c x.l q.node wt _ (hRd _ (Below.refl _ _).drew) hx.b1).mono ?_;rintro e wy ⟨⟨TA,yn,yc,rfl,hTI⟩,bwy⟩;obtain ⟨ady,rfl,cy,j4⟩:=way_read hTI HNE.out ⟨hqn,hkn⟩ hto;rw [←HWY.out] at cy) | fail)
       all_goals (clear p0 p1 e0 ci;go_wp2_with fail;go_meet)
       all_goals (exact ⟨rfl,bel hbr (bel (Below.refl _ _).drew bwy)⟩)
      case rest =>
       obtain ⟨rfl,hbx⟩:=hcut
       clear p0 p1 hRd e0 ci j1 j2
       have hb:=bel HB.out hbx
       by_cases hy0:0≤y
       ·have c2:decide (0≤y)=true:=decide_eq_true hy0
        obtain ⟨sm,hsm⟩:∃ sm,sm=z + y:=⟨_,rfl⟩
        have ksm:IntKind.i64.wrap (z + y)=sm:=by rw [IntWalk.i64_in _ (by omega)];exact hsm.symm
        obtain ⟨g,hg⟩:∃ g,g=K.lessV f sm:=⟨_,rfl⟩
        have HF:=Lib.hid (show g=K.locGo x.nd x.l x.s x.r v m (tg:Int) (i + 1) by
         rw [K.locGo_less HC.out HKI.out (by rw [←HZL.out];exact hz0) (by rw [HRQ.out,←HWT.out,←HWY.out];exact hy0),←hf.out,←HZL.out,HRQ.out,←HWT.out,←HWY.out,←hsm]
         exact hg)
        clear hf hsm
        go_wp2_with fail
        refine (less106_any f sm _).mono ?_
        rw [←hg]
        rintro e w8 ⟨rfl,rfl⟩
        clear ksm hg
        go_wp2_with fail
        rw [←HQB.out]
        go_roundw
        case rel=>(go_light;exact ⟨i + 1,g,rfl,by go_num,hlt,HF.out,hbx⟩)
        case measure=>(go_light;simp [intOf] <;> omega)
       ·have c2:decide (0≤y)=false:=decide_eq_false hy0
        have HF:=Lib.hid (show f=K.locGo x.nd x.l x.s x.r v m (tg:Int) (i + 1) by
         rw [K.locGo_none HKI.out (by rw [HRQ.out,←HWT.out,←HWY.out];omega)]
         exact hf.out)
        clear hf
        go_wp2_with fail
        rw [←HQB.out]
        go_roundw
        case rel=>(go_light;exact ⟨_,_,⟨i + 1,f,rfl,by go_num,hlt,HF.out⟩,rfl,rfl,rfl,rfl⟩)
        case measure=>(go_light;simp [intOf] <;> omega)
     ·have c1:decide (0≤z)=false:=decide_eq_false hz0
      have HF:=Lib.hid (show f=K.locGo x.nd x.l x.s x.r v m (tg:Int) (i + 1) by rw [K.locGo_skip (by rw [←HZL.out];omega)];exact hf.out)
      clear hf
      go_wp2_with fail
      clear hb1
      go_roundw
      case rel=>(go_light;exact ⟨i + 1,f,rfl,by go_num,hlt,HF.out,hbr⟩)
      case measure=>(go_light;simp [intOf] <;> omega)
   ·have HF:=Lib.hid (show K.locF x.nd x.l x.s x.r v m (tg:Int)=f by rw [K.locF_pos hm0,←HVN.out,show vn=i by omega];exact hf.out.symm)
    clear hf
    go_wp2_with fail
    go_ret
    exact ⟨by rw [HF.out];rfl,hb⟩
theorem elem_at {nd:Int} {l:List Ro} {s:S} {r:List Q} {v:List Int} (hok:K.ok31 nd l s r v=true) {i:Nat} {k:Int} (h:v[i]? = some k) :
  ∃ (d dn:Nat) (q:Q),k=(d:Int)∧d < r.length∧r[d]? = some q∧K.req r k=q∧q.node=(dn:Int)∧(dn:Int) < nd∧0≤q.service∧q.service≤1000000:=by
 obtain ⟨-,-,-,hrq,-,hgo⟩:=K.ok31_parts hok
 obtain ⟨h0,h1,h3⟩:=K.setGo_nodes _ _ hgo _ (List.mem_of_getElem? h)
 obtain ⟨d,hd⟩:∃ d:Nat,k=(d:Int):=⟨k.toNat,by omega⟩
 subst hd
 have hq:r[d]? = some (r[d]'(by omega)):=List.getElem?_eq_getElem (by omega)
 obtain ⟨hn,hs,-⟩:=K.right_req (hrq _ (List.mem_of_getElem? hq))
 rw [K.req_get hq] at h3
 exact ⟨d,(r[d]'(by omega)).node.toNat,_,rfl,by omega,hq,K.req_get hq,by omega,by omega,hs.1,hs.2⟩
set_option maxRecDepth 100000 in
set_option maxHeartbeats 16000000 in
theorem label64_any (x:C) (V:Option Addr) (vn vc:Nat) (v:List Int) (A:Option Addr) (tn tc:Nat) (ts:List Int) (m i P rest:Nat) (w:World) (hok:K.ok31 x.nd x.l x.s x.r v=true) (hx:At w x) (hV:Ints w V vn v) (hT:Ints w A tn ts)
  (hPP:P=2 ^ i) (hrest:rest=m - P) (hPm:P≤m) (hm:m < 64) (hml:m < 2 ^ v.length) (hi:i < vn) (hbit:m.testBit i=true)
  (hts:∀ j,j < vn→∃ y,ts[rest * 6 + j]? = some y∧(rest.testBit j=true→y=K.lab x.nd x.l x.s x.r v rest j)) :
  Calls Tryz.prog 133 #[.agg #[.int .i64 x.nd,.slice x.A x.n x.c],.agg #[.int .i64 x.s.day,.int .i64 x.s.depot,.int .i64 x.s.start,.int .i64 x.s.end_,.int .i64 x.s.tare,.slice x.s.A x.s.n x.s.c],.slice x.B x.m x.d,.slice V vn vc,.slice A tn tc,.int .i64 m,.int .i64 i] w fun e w'=>e=.returned (.int .i64 (K.lab x.nd x.l x.s x.r v m i))∧Below w.heap.size w w':=by
 have HVN:=Lib.hid hV.1
 have hv6:vn≤6:=by rw [hV.1];exact (K.ok31_parts hok).2.2.2.2.1
 have hi8:i < 8:=by omega
 have HW3:=Lib.hid (show IntKind.i64.wrap ((2:Int) ^ i)=(P:Int) by rw [wrap_pow hi8,hPP];simp)
 obtain ⟨adv,k,rfl,hk,ck⟩:=hV.at_ hi
 have hlab:=K.lab_local (nd:=x.nd) (l:=x.l) (s:=x.s) (r:=x.r) (K.case31 hok) hml hk hbit
 rw [←hPP,←hrest] at hlab
 clear hPP
 obtain ⟨d,dn,q,hkd,hd,hdq,hreq,hdn,hdn1,qs0,qs1⟩:=elem_at hok hk
 rw [hreq,hdn,←K.refLabel_eq] at hlab
 obtain ⟨F,hF⟩:∃ F,F=K.locF x.nd x.l x.s x.r v rest (dn:Int):=⟨_,rfl⟩
 have HF:=Lib.hid hF
 have hFb:=K.locF_bd (nd:=x.nd) (l:=x.l) (s:=x.s) (r:=x.r) (v:=v) (K.case31 hok) (by obtain ⟨-,-,-,st1,en1⟩:=K.check_parts (K.ok31_parts hok).2.1;omega) rest (dn:Int)
 rw [←hF] at hlab hFb
 have HLAB:=Lib.hid hlab
 subst hkd
 have hdm:d < x.m:=by rw [hx.reqs.1];exact hd
 obtain ⟨adq,q2,hqB,hgq,hwq,e0,e1,e2,e3,e4,e5,e6⟩:=hx.reqs.at_ hdm
 rw [hdq] at hgq
 injection hgq with hgq
 subst hgq
 rw [hdn] at e0
 obtain ⟨w1,hw1⟩:∃ w1:World,w1=w.alloc (.cells #[.int .i64 x.nd,.slice x.A x.n x.c] 24):=⟨_,rfl⟩
 obtain ⟨w2,hw2⟩:∃ w2:World,w2=w1.alloc (.cells #[.int .i64 x.s.day,.int .i64 x.s.depot,.int .i64 x.s.start,.int .i64 x.s.end_,.int .i64 x.s.tare,.slice x.s.A x.s.n x.s.c] 63):=⟨_,rfl⟩
 obtain ⟨w3,hw3⟩:∃ w3:World,w3=w2.alloc (.cells #[.int .i64 (dn:Int),.int .i64 q.room,.int .i64 q.kilos,.int .i64 q.service,.int .i64 q.frm,.int .i64 q.by_,.slice q.A q.n q.c] 47):=⟨_,rfl⟩
 have z1:w1.heap.size=w.heap.size + 1:=by rw [hw1];exact World.size_alloc _ _
 have z2:w2.heap.size=w.heap.size + 1 + 1:=by rw [hw2,World.size_alloc,z1]
 have b01:Below w.heap.size w w1:=by rw [hw1];exact (Below.refl _ _).alloc (Nat.le_refl _) _
 have b12:Below w1.heap.size w1 w2:=by rw [hw2];exact (Below.refl _ _).alloc (Nat.le_refl _) _
 have b23:Below w2.heap.size w2 w3:=by rw [hw3];exact (Below.refl _ _).alloc (Nat.le_refl _) _
 have hP:Net w3 w.heap.size x.nd x.A x.n x.c:=by
  have h1:Net w1 w.heap.size x.nd x.A x.n x.c:=by rw [hw1];exact Net.new _ _ _ _ _
  exact h1.below (bel b12 b23)
 have hS:Shf w3 (w.heap.size + 1) x.s:=by
  have h1:Shf w2 (w.heap.size + 1) x.s:=by rw [←z1,hw2];exact Shf.new _ _
  exact h1.below b23
 have hQ3:w3.heap[w.heap.size + 1 + 1]? = some (.cells #[.int .i64 (dn:Int),.int .i64 q.room,.int .i64 q.kilos,.int .i64 q.service,.int .i64 q.frm,.int .i64 q.by_,.slice q.A q.n q.c] 47 (0,0)):=by rw [←z2,hw3];exact heap_alloc_new _ _
 have b02:=bel b01 b12
 have hb:=bel b02 b23
 have ck:=(b02.cell (cell_lt ck)).trans ck
 have e0:=(b02.cell (cell_lt e0)).trans e0
 have e1:=(b02.cell (cell_lt e1)).trans e1
 have e2:=(b02.cell (cell_lt e2)).trans e2
 have e3:=(b02.cell (cell_lt e3)).trans e3
 have e4:=(b02.cell (cell_lt e4)).trans e4
 have e5:=(b02.cell (cell_lt e5)).trans e5
 have e6:=(b02.cell (cell_lt e6)).trans e6
 rw [hw2,hw1] at ck e0 e1 e2 e3 e4 e5 e6
 have HOK:=Lib.hid hok
 have HTS:=Lib.hid hts
 have HWQ:=Lib.hid hwq
 have HQN:=Lib.hid (hx.b4 q (List.mem_of_getElem? hdq))
 have HQB:=Lib.hid hqB
 have HPR:=Lib.hid (show IntKind.i64.wrap ((m:Int) - (P:Int))=(rest:Int) by rw [IntWalk.i64_in _ (by omega)];omega)
 have hr64:rest < 64:=by omega
 have kk3:(0:Int)≤(i:Int):=by omega
 have kk4:(i:Int) < (vn:Int):=by omega
 have kk5:(0:Int)≤(d:Int):=by omega
 have kk6:(d:Int) < (x.m:Int):=by omega
 rw [hqB]
 clear hok hts hwq hk hlab hd hdq hreq hdn hF hqB hrest hPm hml hbit hdm b01 b12 b02 z1 z2
 go_enter Tryz.func133,Tryz.ntmps133
 go_upto_region 2 with fail
 rw [←hw1,←hw2,←hw3]
 clear hw1 hw2 hw3 ck e0 e1 e2 e3 e4 e5 e6 kk5 kk6
 have hmk:∀ w',Below w3.heap.size w3 w'→(fun w':World=>Below w3.heap.size w3 w'∧w'.cell? ⟨w.heap.size,0,none⟩=some (.int .i64 x.nd)∧w'.cell? ⟨w.heap.size,1,none⟩=some (.slice x.A x.n x.c)∧w'.cell? ⟨w.heap.size + 1,0,none⟩=some (.int .i64 x.s.day)∧w'.cell? ⟨w.heap.size + 1,1,none⟩=some (.int .i64 x.s.depot)∧w'.cell? ⟨w.heap.size + 1,2,none⟩=some (.int .i64 x.s.start)∧w'.cell? ⟨w.heap.size + 1,3,none⟩=some (.int .i64 x.s.end_)∧w'.cell? ⟨w.heap.size + 1,4,none⟩=some (.int .i64 x.s.tare)∧w'.cell? ⟨w.heap.size + 1,5,none⟩=some (.slice x.s.A x.s.n x.s.c)∧w'.cell? ⟨w.heap.size + 1 + 1,0,none⟩=some (.int .i64 (dn:Int))∧w'.cell? ⟨w.heap.size + 1 + 1,1,none⟩=some (.int .i64 q.room)∧w'.cell? ⟨w.heap.size + 1 + 1,2,none⟩=some (.int .i64 q.kilos)∧w'.cell? ⟨w.heap.size + 1 + 1,3,none⟩=some (.int .i64 q.service)∧w'.cell? ⟨w.heap.size + 1 + 1,4,none⟩=some (.int .i64 q.frm)∧w'.cell? ⟨w.heap.size + 1 + 1,5,none⟩=some (.int .i64 q.by_)∧w'.cell? ⟨w.heap.size + 1 + 1,6,none⟩=some (.slice q.A q.n q.c)) w':=fun w' h=>⟨h,(hP.below h).c0,(hP.below h).c1,(hS.below h).cells.1,(hS.below h).cells.2.1,(hS.below h).cells.2.2.1,(hS.below h).cells.2.2.2.1,(hS.below h).cells.2.2.2.2.1,(hS.below h).cells.2.2.2.2.2,blk_cell (blk_below h hQ3) 0 _ rfl,blk_cell (blk_below h hQ3) 1 _ rfl,blk_cell (blk_below h hQ3) 2 _ rfl,blk_cell (blk_below h hQ3) 3 _ rfl,blk_cell (blk_below h hQ3) 4 _ rfl,blk_cell (blk_below h hQ3) 5 _ rfl,blk_cell (blk_below h hQ3) 6 _ rfl⟩
 obtain ⟨-,p0,p1,s0,s1,s2,s3,s4,s5,q0,q1,q2,q3,q4,q5,q6⟩:=hmk _ (Below.refl _ _)
 by_cases h1:x.s.day < q.frm
 ·have c1:decide (x.s.day < q.frm)=true:=decide_eq_true h1
  have HX:=Lib.hid (show K.lab x.nd x.l x.s x.r v m i=-1 by rw [HLAB.out];unfold K.refLabel;rw [if_pos (.inl h1)])
  clear hmk h1
  go_quiet (fail)
  go_wp2_with fail
  go_ret
  exact ⟨by rw [HX.out];rfl,below_drewN hb _⟩
 have c1:decide (x.s.day < q.frm)=false:=decide_eq_false h1
 by_cases h2:q.by_ < x.s.day
 ·have c2:decide (q.by_ < x.s.day)=true:=decide_eq_true h2
  have HX:=Lib.hid (show K.lab x.nd x.l x.s x.r v m i=-1 by rw [HLAB.out];unfold K.refLabel;rw [if_pos (.inr (.inl h2))])
  clear hmk h1 h2
  go_quiet (fail)
  go_wp2_with fail
  go_ret
  exact ⟨by rw [HX.out];rfl,below_drewN hb _⟩
 have c2:decide (q.by_ < x.s.day)=false:=decide_eq_false h2
 clear p0 p1 s0 s1 s2 s3 s4 s5 q0 q1 q2 q3 q4 q5 q6
 have S0:=hmk _ (Below.refl _ _)
 have hSd:∀ w',(fun w':World=>Below w3.heap.size w3 w'∧w'.cell? ⟨w.heap.size,0,none⟩=some (.int .i64 x.nd)∧w'.cell? ⟨w.heap.size,1,none⟩=some (.slice x.A x.n x.c)∧w'.cell? ⟨w.heap.size + 1,0,none⟩=some (.int .i64 x.s.day)∧w'.cell? ⟨w.heap.size + 1,1,none⟩=some (.int .i64 x.s.depot)∧w'.cell? ⟨w.heap.size + 1,2,none⟩=some (.int .i64 x.s.start)∧w'.cell? ⟨w.heap.size + 1,3,none⟩=some (.int .i64 x.s.end_)∧w'.cell? ⟨w.heap.size + 1,4,none⟩=some (.int .i64 x.s.tare)∧w'.cell? ⟨w.heap.size + 1,5,none⟩=some (.slice x.s.A x.s.n x.s.c)∧w'.cell? ⟨w.heap.size + 1 + 1,0,none⟩=some (.int .i64 (dn:Int))∧w'.cell? ⟨w.heap.size + 1 + 1,1,none⟩=some (.int .i64 q.room)∧w'.cell? ⟨w.heap.size + 1 + 1,2,none⟩=some (.int .i64 q.kilos)∧w'.cell? ⟨w.heap.size + 1 + 1,3,none⟩=some (.int .i64 q.service)∧w'.cell? ⟨w.heap.size + 1 + 1,4,none⟩=some (.int .i64 q.frm)∧w'.cell? ⟨w.heap.size + 1 + 1,5,none⟩=some (.int .i64 q.by_)∧w'.cell? ⟨w.heap.size + 1 + 1,6,none⟩=some (.slice q.A q.n q.c)) w'→(fun w':World=>Below w3.heap.size w3 w'∧w'.cell? ⟨w.heap.size,0,none⟩=some (.int .i64 x.nd)∧w'.cell? ⟨w.heap.size,1,none⟩=some (.slice x.A x.n x.c)∧w'.cell? ⟨w.heap.size + 1,0,none⟩=some (.int .i64 x.s.day)∧w'.cell? ⟨w.heap.size + 1,1,none⟩=some (.int .i64 x.s.depot)∧w'.cell? ⟨w.heap.size + 1,2,none⟩=some (.int .i64 x.s.start)∧w'.cell? ⟨w.heap.size + 1,3,none⟩=some (.int .i64 x.s.end_)∧w'.cell? ⟨w.heap.size + 1,4,none⟩=some (.int .i64 x.s.tare)∧w'.cell? ⟨w.heap.size + 1,5,none⟩=some (.slice x.s.A x.s.n x.s.c)∧w'.cell? ⟨w.heap.size + 1 + 1,0,none⟩=some (.int .i64 (dn:Int))∧w'.cell? ⟨w.heap.size + 1 + 1,1,none⟩=some (.int .i64 q.room)∧w'.cell? ⟨w.heap.size + 1 + 1,2,none⟩=some (.int .i64 q.kilos)∧w'.cell? ⟨w.heap.size + 1 + 1,3,none⟩=some (.int .i64 q.service)∧w'.cell? ⟨w.heap.size + 1 + 1,4,none⟩=some (.int .i64 q.frm)∧w'.cell? ⟨w.heap.size + 1 + 1,5,none⟩=some (.int .i64 q.by_)∧w'.cell? ⟨w.heap.size + 1 + 1,6,none⟩=some (.slice q.A q.n q.c)) w'.drew:=fun w' h=>hmk _ h.1.drew
 have hVx:∀ w',Below w3.heap.size w3 w'→Ints w' (some adv) vn v:=fun w' h=>(hV.below hb).below h
 have hXx:∀ w',Below w3.heap.size w3 w'→At w' x:=fun w' h=>(hx.below hb).below h
 have hAr:∀ w',Below w3.heap.size w3 w'→Ints w' x.s.A x.s.n x.s.l:=fun w' h=>(hXx w' h).rooms
 have hAq:∀ w',Below w3.heap.size w3 w'→Reqs w' (some adq) x.m x.r:=fun w' h=>by rw [←HQB.out];exact (hXx w' h).reqs
 have hm256:m < 256:=by omega
 have hv8:vn≤8:=by omega
 have hpl:(K.part v m).length≤1000000000:=by have h1:=K.part_len v m;rw [←HVN.out] at h1;omega
 go_region_held3 (fun w':World=>Below w3.heap.size w3 w'∧w'.cell? ⟨w.heap.size,0,none⟩=some (.int .i64 x.nd)∧w'.cell? ⟨w.heap.size,1,none⟩=some (.slice x.A x.n x.c)∧w'.cell? ⟨w.heap.size + 1,0,none⟩=some (.int .i64 x.s.day)∧w'.cell? ⟨w.heap.size + 1,1,none⟩=some (.int .i64 x.s.depot)∧w'.cell? ⟨w.heap.size + 1,2,none⟩=some (.int .i64 x.s.start)∧w'.cell? ⟨w.heap.size + 1,3,none⟩=some (.int .i64 x.s.end_)∧w'.cell? ⟨w.heap.size + 1,4,none⟩=some (.int .i64 x.s.tare)∧w'.cell? ⟨w.heap.size + 1,5,none⟩=some (.slice x.s.A x.s.n x.s.c)∧w'.cell? ⟨w.heap.size + 1 + 1,0,none⟩=some (.int .i64 (dn:Int))∧w'.cell? ⟨w.heap.size + 1 + 1,1,none⟩=some (.int .i64 q.room)∧w'.cell? ⟨w.heap.size + 1 + 1,2,none⟩=some (.int .i64 q.kilos)∧w'.cell? ⟨w.heap.size + 1 + 1,3,none⟩=some (.int .i64 q.service)∧w'.cell? ⟨w.heap.size + 1 + 1,4,none⟩=some (.int .i64 q.frm)∧w'.cell? ⟨w.heap.size + 1 + 1,5,none⟩=some (.int .i64 q.by_)∧w'.cell? ⟨w.heap.size + 1 + 1,6,none⟩=some (.slice q.A q.n q.c))
  (first | assumption | exact S0 | exact hSd _ (by assumption))
  (first
   | (go_at_call 183;refine (part31_any (some adv) vn vc v m _ (hVx _ (And.left (by assumption))) hv8 hm256).mono ?_;rintro e wb ⟨⟨RA,rn,rc,rfl,hR⟩,bb⟩;have S1:=hmk _ (bel (And.left (by assumption)) bb);have hrn:rn≤1000000000:=by (rw [hR.1];exact hpl))
   | (go_at_call 182;refine (rfits29_any x.s (some adq) x.m x.d x.r RA rn rc (K.part v m) _ (hAr _ S1.1) hx.b2 (hAq _ S1.1) hx.b3 hx.b4 hR hrn).mono ?_;rintro e wc ⟨rfl,bc⟩;have S2:=hmk _ (bel S1.1 bc))
   | fail)
 obtain ⟨fb,hfb⟩:∃ fb,fb=T.fits x.s x.r (K.part v m):=⟨_,rfl⟩
 rw [←hfb]
 have b3c:=S2.1
 have HL2:=Lib.hid (show K.lab x.nd x.l x.s x.r v m i=(if fb=false then -1 else if F < 0∨x.s.end_ < F then -1 else if (H.fit q.l F q.service).2=false∨x.s.end_ < (H.fit q.l F q.service).1 + q.service then -1 else (H.fit q.l F q.service).1 + q.service) by
  rw [HLAB.out];unfold K.refLabel;rw [←hfb]
  have g1:¬ x.s.day < q.frm:=by omega
  have g2:¬ q.by_ < x.s.day:=by omega
  simp only [g1,g2,false_or])
 clear S0 S1 S2 hR hrn hpl bb bc hfb hm256 HLAB hSd
 cases fb
 ·have HX:=Lib.hid (show K.lab x.nd x.l x.s x.r v m i=-1 by rw [HL2.out];rfl)
  clear hmk
  go_wp2_with fail
  go_ret
  exact ⟨by rw [HX.out];rfl,bel hb b3c⟩
 have hP3:=HPR.out
 have hw3:=HW3.out
 have hP4:wrap64 ((m:Int) - (P:Int))=(rest:Int):=by rw [←IntWalk.i64_left];exact hP3
 have hw4:wrap64 ((2:Int) ^ i)=(P:Int):=by rw [←IntWalk.i64_left];exact hw3
 go_upto_region 4 with fail
 obtain ⟨-,p0,p1,s0,s1,s2,s3,s4,s5,q0,-⟩:=hmk _ b3c
 have p0:=Beh.cell p0
 have p1:=Beh.cell p1
 have s0:=Beh.cell s0
 have s1:=Beh.cell s1
 have s2:=Beh.cell s2
 have s3:=Beh.cell s3
 have s4:=Beh.cell s4
 have s5:=Beh.cell s5
 have q0:=Beh.cell q0
 have C:∀ j:Beh wc,Calls Tryz.prog 184 #[.agg #[.int .i64 x.nd,.slice x.A x.n x.c],.agg #[.int .i64 x.s.day,.int .i64 x.s.depot,.int .i64 x.s.start,.int .i64 x.s.end_,.int .i64 x.s.tare,.slice x.s.A x.s.n x.s.c],.slice (some adq) x.m x.d,.slice (some adv) vn vc,.slice A tn tc,.int .i64 rest,.int .i64 dn] j.val fun e w'=>e=.returned (.int .i64 F)∧Below j.val.heap.size j.val w':=fun j=>by
  rw [HF.out,←HQB.out]
  exact arrival_any x (some adv) vn vc v A tn tc ts rest dn _ HOK.out (hXx _ (bel b3c j.property)) (hVx _ (bel b3c j.property)) ((hT.below hb).below (bel b3c j.property)) HTS.out hr64 hdn1
 clear hVx hAr hAq hXx
 refine reg_beh (by kernel_rfl) (by kernel_rfl) ?_
 repeat (go_big_quiet_step ((go_at_call 184;exact Beh.calls (C _))))
 refine wpQuiet_nil ?_
 rintro wd ⟨⟨_,bd⟩,rfl⟩
 have b3d:Below w3.heap.size w3 wd:=bel b3c bd
 clear C bd hP3 hP4 hw3 hw4
 clear p0 p1 s0 s1 s2 s3 s4 s5 q0
 obtain ⟨-,p0,p1,s0,s1,s2,s3,s4,s5,q0,q1,q2,q3,q4,q5,q6⟩:=hmk _ b3d
 by_cases h3:F < 0
 ·have c3:decide (F < 0)=true:=decide_eq_true h3
  have HX:=Lib.hid (show K.lab x.nd x.l x.s x.r v m i=-1 by rw [HL2.out,if_neg (by simp),if_pos (.inl h3)])
  clear hmk
  go_wp2_with fail
  go_ret
  exact ⟨by rw [HX.out];rfl,bel hb b3d⟩
 have c3:decide (F < 0)=false:=decide_eq_false h3
 by_cases h4:x.s.end_ < F
 ·have c4:decide (x.s.end_ < F)=true:=decide_eq_true h4
  have HX:=Lib.hid (show K.lab x.nd x.l x.s x.r v m i=-1 by rw [HL2.out,if_neg (by simp),if_pos (.inr h4)])
  clear hmk
  go_wp2_with fail
  go_ret
  exact ⟨by rw [HX.out];rfl,bel hb b3d⟩
 have c4:decide (x.s.end_ < F)=false:=decide_eq_false h4
 have HL3:=Lib.hid (show K.lab x.nd x.l x.s x.r v m i=(if (H.fit q.l F q.service).2=false∨x.s.end_ < (H.fit q.l F q.service).1 + q.service then -1 else (H.fit q.l F q.service).1 + q.service) by
  rw [HL2.out,if_neg (by simp),if_neg (by simp [h3,h4])])
 clear HL2
 go_wp2_with fail
 refine (rfit_any q.A q.n q.c q.l F q.service _ (HWQ.out.below (bel hb b3d)) HQN.out).mono ?_
 obtain ⟨FT,hFT⟩:∃ FT,FT=H.fit q.l F q.service:=⟨_,rfl⟩
 have hfit:FT.2=true→0≤F∧F≤1000000∧F≤FT.1∧FT.1 + q.service≤1000000:=fun h=>by
  rw [hFT] at h ⊢
  obtain ⟨-,z1,-,z2,z3⟩:=H.fit_ok h
  exact ⟨z1.1,z1.2,z2,z3⟩
 have HFIT:=Lib.hid hfit
 have hl3:=HL3.out
 rw [←hFT] at hl3 ⊢
 have HL4:=Lib.hid hl3
 clear hl3 HL3 hfit hFT
 obtain ⟨B,okb⟩:=FT
 rintro e we ⟨rfl,be⟩
 have b3e:=bel b3d be
 clear p0 p1 s0 s1 s2 s3 s4 s5 q0 q1 q2 q3 q4 q5 q6
 obtain ⟨-,p0,p1,s0,s1,s2,s3,s4,s5,q0,q1,q2,q3,q4,q5,q6⟩:=hmk _ b3e
 clear hmk be b3d b3c
 cases okb
 ·have HX:=Lib.hid (show K.lab x.nd x.l x.s x.r v m i=-1 by rw [HL4.out,if_pos (.inl rfl)])
  go_wp2_with fail
  go_ret
  exact ⟨by rw [HX.out];rfl,bel hb b3e⟩
 have hfit:=HFIT.out rfl
 dsimp only at hfit
 have hbs:IntKind.i64.wrap (B + q.service)=B + q.service:=IntWalk.i64_in _ (by omega)
 have hbs2:wrap64 (B + q.service)=B + q.service:=by rw [←IntWalk.i64_left];exact hbs
 clear hfit HFIT
 by_cases h5:x.s.end_ < B + q.service
 ·have c5:decide (x.s.end_ < B + q.service)=true:=decide_eq_true h5
  have HX:=Lib.hid (show K.lab x.nd x.l x.s x.r v m i=-1 by rw [HL4.out,if_pos (.inr h5)])
  go_wp2_with fail
  go_ret
  exact ⟨by rw [HX.out];rfl,bel hb b3e⟩
 ·have c5:decide (x.s.end_ < B + q.service)=false:=decide_eq_false h5
  have HX:=Lib.hid (show K.lab x.nd x.l x.s x.r v m i=B + q.service by rw [HL4.out,if_neg (by simp [h5])])
  go_wp2_with fail
  go_ret
  exact ⟨by rw [HX.out];rfl,bel hb b3e⟩
namespace K
section
variable {nd : Int} {l : List Ro} {s : S} {r : List Q} {v : List Int}
def TSat (nd:Int) (l:List Ro) (s:S) (r:List Q) (v:List Int) (N:Nat) (ts:List Int) (m i:Nat):Prop :=
 ts.length=6 * N∧∀ m' j,j < v.length→m'.testBit j=true→(m' < m∨(m'=m∧j < i))→ts[m' * 6 + j]? = some (lab nd l s r v m' j)
theorem tsat_start (N:Nat):TSat nd l s r v N (List.replicate (6 * N) 0) 1 0 :=
 ⟨by simp,fun m' j _ hb h=>by
  have:m'=0:=by omega
  rw [this,Nat.zero_testBit] at hb
  cases hb⟩
theorem TSat.skip {N m i:Nat} {ts:List Int} (h:TSat nd l s r v N ts m i) (hb:m.testBit i=false):TSat nd l s r v N ts m (i + 1) :=
 ⟨h.1,fun m' j hj hb' hc=>by
  refine h.2 m' j hj hb' ?_
  rcases hc with hc | ⟨rfl,hc⟩
  ·exact .inl hc
  ·by_cases e:j=i
   ·rw [e,hb] at hb';cases hb'
   ·exact .inr ⟨rfl,by omega⟩⟩
theorem TSat.row {N m:Nat} {ts:List Int} (h:TSat nd l s r v N ts m v.length):TSat nd l s r v N ts (m + 1) 0 :=
 ⟨h.1,fun m' j hj hb' hc=>h.2 m' j hj hb' (by
  by_cases e:m'=m
  ·exact .inr ⟨e,hj⟩
  ·exact .inl (by omega))⟩
theorem TSat.put {N m i z:Nat} {ts:List Int} (h:TSat nd l s r v N ts m i) (hz:z=m * 6 + i) (hv:v.length≤6) (hi:i < v.length) (hm:m < N):TSat nd l s r v N (ts.set z (lab nd l s r v m i)) m (i + 1):=by
 subst hz
 refine ⟨by rw [List.length_set];exact h.1,fun m' j hj hb' hc=>?_⟩
 rw [List.getElem?_set]
 by_cases e:m * 6 + i=m' * 6 + j
 ·have e1:m'=m:=by omega
  have e2:j=i:=by omega
  subst e1 e2
  rw [if_pos rfl,if_pos (by rw [h.1];omega)]
 ·rw [if_neg e]
  refine h.2 m' j hj hb' ?_
  rcases hc with hc | ⟨rfl,hc⟩
  ·exact .inl hc
  ·exact .inr ⟨rfl,by omega⟩
theorem TSat.get {N m i rest:Nat} {ts:List Int} (h:TSat nd l s r v N ts m i) (hr:rest < m) (hm:m < N) (hv:v.length≤6):∀ j,j < v.length→∃ y,ts[rest * 6 + j]? = some y∧(rest.testBit j=true→y=lab nd l s r v rest j):=fun j hj=>by
 have hl:rest * 6 + j < ts.length:=by rw [h.1];omega
 refine ⟨_,List.getElem?_eq_getElem hl,fun hb=>?_⟩
 have h1:=h.2 rest j hj hb (.inl hr)
 rw [List.getElem?_eq_getElem hl] at h1
 injection h1
end
end K
theorem own_put {w:World} {base:Nat} {e:TypeId} {size n:Nat} {v:Value} {xs:List Value} (h:w.ownsRow base e size v n xs) {ad:Addr} {m c:Nat} {o:List Int} (hO:OI w ad m c o) (k:Nat) (u:Value) (hlt:ad.block < base):(w.setCell (ad.add k) u).ownsRow base e size v n xs:=by
 obtain ⟨-,-,g,cur,rfl,-,-⟩:=hO
 rw [add_zero_block]
 refine h.kept (grow_set (grow_refl w (some g)) g k u rfl) (.inr fun e=>?_)
 have:=(h.lt g e).1
 have:g < base:=hlt
 omega
set_option maxRecDepth 100000 in
set_option maxHeartbeats 16000000 in
theorem labels31_any (x:C) (V:Option Addr) (vn vc:Nat) (v:List Int) (w:World) (hx:At w x) (hV:Ints w V vn v) (hvn:vn≤1000000000) :
  Calls Tryz.prog 82 #[.agg #[.int .i64 x.nd,.slice x.A x.n x.c],.agg #[.int .i64 x.s.day,.int .i64 x.s.depot,.int .i64 x.s.start,.int .i64 x.s.end_,.int .i64 x.s.tare,.slice x.s.A x.s.n x.s.c],.slice x.B x.m x.d,.slice V vn vc] w fun e w'=>RetLabs w w' (K.labs x.nd x.l x.s x.r v) e:=by
 obtain ⟨w0,hw0⟩:∃ w0:World,w0=(w.alloc (.cells #[.int .i64 x.nd,.slice x.A x.n x.c] 24)).alloc (.cells #[.int .i64 x.s.day,.int .i64 x.s.depot,.int .i64 x.s.start,.int .i64 x.s.end_,.int .i64 x.s.tare,.slice x.s.A x.s.n x.s.c] 63):=⟨_,rfl⟩
 have z1:=World.size_alloc w (.cells #[.int .i64 x.nd,.slice x.A x.n x.c] 24)
 have b0:Below w.heap.size w w0:=by rw [hw0];exact bel ((Below.refl _ _).alloc (Nat.le_refl _) _) ((Below.refl _ _).alloc (Nat.le_refl _) _)
 have hN:Net w0 w.heap.size x.nd x.A x.n x.c:=by
  rw [hw0]
  exact (Net.new w x.nd x.A x.n x.c).below ((Below.refl _ _).alloc (Nat.le_refl _) _)
 have hS:Shf w0 (w.heap.size + 1) x.s:=by
  have h:=Shf.new (w.alloc (.cells #[.int .i64 x.nd,.slice x.A x.n x.c] 24)) x.s
  rw [z1] at h
  rw [hw0];exact h
 have p0:=hN.c0
 have p1:=hN.c1
 obtain ⟨s0,s1,s2,s3,s4,s5⟩:=hS.cells
 rw [hw0] at p0 p1 s0 s1 s2 s3 s4 s5
 go_enter Tryz.func82,Tryz.ntmps82
 go_wp2_with fail
 rw [←hw0]
 clear hw0 z1 p0 p1 s0 s1 s2 s3 s4 s5
 refine (right31_any x V vn vc v _ (hx.below b0) (hV.below b0) hvn).mono ?_
 obtain ⟨okb,hokb⟩:∃ okb,okb=K.ok31 x.nd x.l x.s x.r v:=⟨_,rfl⟩
 rw [←hokb]
 rintro e w1 ⟨rfl,b1⟩
 have hb:=bel b0 b1
 have hN:=hN.below b1
 have hS:=hS.below b1
 clear b0 b1
 cases okb
 ·have HX:=Lib.hid (show K.labs x.nd x.l x.s x.r v=[] by simp [K.labs,←hokb])
  clear hokb
  go_wp2_with fail
  go_ret
  exact ⟨⟨none,0,0,rfl,by rw [HX.out];exact ⟨rfl,rfl,fun h=>absurd h (by omega)⟩⟩,hb⟩
 have hok:=hokb.symm
 have hv6:vn≤6:=by rw [hV.1];exact (K.ok31_parts hok).2.2.2.2.1
 have HVN:=Lib.hid hV.1
 obtain ⟨N,hNN⟩:∃ N,N=2 ^ vn:=⟨_,rfl⟩
 have hN1:1≤N:=by rw [hNN];exact Nat.two_pow_pos vn
 have hN64:N≤64:=by rw [hNN];exact Nat.pow_le_pow_right (by omega) hv6
 obtain ⟨N6,hN6⟩:∃ N6,N6=6 * N:=⟨_,rfl⟩
 have HNN:=Lib.hid (show N=2 ^ v.length by rw [hNN,HVN.out])
 have HW1:=Lib.hid (show IntKind.i64.wrap ((2:Int) ^ vn)=(N:Int) by rw [wrap_pow (by omega),hNN];simp)
 have kw6:IntKind.i64.wrap ((6:Int) * 2 ^ vn)=(N6:Int):=by
  have h1:((2:Int) ^ vn)=(N:Int):=by rw [hNN];simp
  rw [h1,IntWalk.i64_in _ (by omega)];omega
 have HW2:=Lib.hid (show wrap64 ((2:Int) ^ vn)=(N:Int) by rw [←IntWalk.i64_left];exact HW1.out)
 have kw7:wrap64 ((6:Int) * 2 ^ vn)=(N6:Int):=by rw [←IntWalk.i64_left];exact kw6
 have HKW6:=Lib.hid kw6
 have HKW7:=Lib.hid kw7
 have HOK:=Lib.hid hok
 clear hNN hokb kw6 kw7
 have hN6b:N6≤1000000:=by omega
 have hmk:=fun w'=>make_ints N6 hN6b w'
 have kw6:=HKW6.out
 have kw7:=HKW7.out
 obtain ⟨w2,hw2⟩:∃ w2:World,w2=w1.alloc (.cells (intCells (List.replicate N6 0)).toArray 3):=⟨_,rfl⟩
 have b12:Below w1.heap.size w1 w2:=by rw [hw2];exact (Below.refl _ _).alloc (Nat.le_refl _) _
 have hT2:OI w2 ⟨w1.heap.size,0,none⟩ N6 N6 (List.replicate N6 0):=⟨by simp,Nat.le_refl _,_,_,rfl,by rw [hw2];exact heap_alloc_new _ _,by simp [intCells]⟩
 have z2:w2.heap.size=w1.heap.size + 1:=by rw [hw2];exact World.size_alloc _ _
 have HTS:=Lib.hid (show K.TSat x.nd x.l x.s x.r v N (List.replicate N6 0) 1 0 by rw [hN6];exact K.tsat_start N)
 have HN6:=Lib.hid hN6
 clear hN6
 obtain ⟨adT,hadT⟩:∃ adT:Addr,adT=⟨w1.heap.size,0,none⟩:=⟨_,rfl⟩
 rw [←hadT] at hT2
 have hadb:adT.block=w1.heap.size:=by rw [hadT]
 go_upto_region 5 with fail
 rw [←hw2,←hadT]
 clear hw2 hadT hmk kw6 kw7
 go_wp2_with fail
 go_loopw [9,11] (fun v9 v11 wr=>∃ (m:Nat) (ts:List Int),v11=.int .i64 m∧1≤m∧m≤N∧OI wr adT N6 N6 ts∧Hid (K.TSat x.nd x.l x.s x.r v N ts m 0)∧(K.nlab x.nd x.l x.s x.r v m 0≤(K.labs x.nd x.l x.s x.r v).length)∧wr.ownsRow w2.heap.size 167 3 v9 (K.nlab x.nd x.l x.s x.r v m 0) (((K.labs x.nd x.l x.s x.r v).take (K.nlab x.nd x.l x.s x.r v m 0)).flatMap labCells)∧Below w1.heap.size w1 wr∧w2.heap.size≤wr.heap.size) (fun _ v11 _=>N - (intOf v11).toNat)
 case atStart=>exact ⟨1,_,rfl,Nat.le_refl _,hN1,hT2,HTS.out,by rw [K.nlab_zero];exact Nat.zero_le _,by rw [K.nlab_zero];exact World.ownsRow_nil _ _ _ _,b12,Nat.le_refl _⟩
 case round =>
  clear hT2 HTS b12
  obtain ⟨m,ts,rfl,hm1,hmN,hT,hts,hnl,hown,hbr,hsz⟩:=hrel
  by_cases hlt:m < N
  ·have hlt':decide ((m:Int) < (N:Int))=true:=by simp;exact hlt
   have hw1:=HW1.out
   have hw2:=HW2.out
   go_wp2_with fail
   clear hw1 hw2
   go_loopw [9,12] (fun v9 v12 wi=>∃ (i:Nat) (ts:List Int),v12=.int .i64 i∧i≤vn∧OI wi adT N6 N6 ts∧Hid (K.TSat x.nd x.l x.s x.r v N ts m i)∧(K.nlab x.nd x.l x.s x.r v m i≤(K.labs x.nd x.l x.s x.r v).length)∧wi.ownsRow w2.heap.size 167 3 v9 (K.nlab x.nd x.l x.s x.r v m i) (((K.labs x.nd x.l x.s x.r v).take (K.nlab x.nd x.l x.s x.r v m i)).flatMap labCells)∧Below w1.heap.size w1 wi∧w2.heap.size≤wi.heap.size) (fun _ v12 _=>vn - (intOf v12).toNat)
   case atStart=>exact ⟨0,ts,rfl,Nat.zero_le _,hT,hts,hnl,hown,hbr,hsz⟩
   case round =>
    clear hT hts hnl hown hbr hsz
    obtain ⟨i,ts,rfl,hi,hT,hts,hnl,hown,hbr,hsz⟩:=hrel
    by_cases hlti:i < vn
    ·cases hbit:m.testBit i
     ·have hb1:bits BinOp.and IntKind.i64 ((m:Int) / 2 ^ i) 1=0:=by rw [bit_at (by omega) (by omega),hbit];rfl
      have HNS:=Lib.hid (K.nlab_skip (nd:=x.nd) (l:=x.l) (s:=x.s) (r:=x.r) (v:=v) hbit)
      have HT2:=Lib.hid (hts.out.skip hbit)
      rw [←HNS.out] at hown hnl
      clear hbit hts
      go_wp2_with fail
      go_roundw
      case rel=>exact ⟨i + 1,ts,by go_num,hlti,hT,HT2.out,hnl,hown,hbr,hsz⟩
      case measure=>simp [intOf];omega
     ·have hb1:bits BinOp.and IntKind.i64 ((m:Int) / 2 ^ i) 1=1:=by rw [bit_at (by omega) (by omega),hbit];rfl
      go_upto_region 12 with fail
      clear hb1
      obtain ⟨hre,hrb⟩:=bit_rest (show m < 64 by omega) (show i < 6 by omega) hbit
      have HBIT:=Lib.hid hbit
      clear hbit hrb
      have hN':=hN.below hbr
      have hS':=hS.below hbr
      have hbw:=bel hb hbr
      have p0:=hN'.c0
      have p1:=hN'.c1
      obtain ⟨s0,s1,s2,s3,s4,s5⟩:=hS'.cells
      obtain ⟨P,hP⟩:∃ P,P=2 ^ i:=⟨_,rfl⟩
      rw [←hP] at hre
      have hpw:1≤P:=by rw [hP];exact Nat.two_pow_pos i
      obtain ⟨rest,hrest⟩:∃ rest,rest=m - P:=⟨_,rfl⟩
      have CL:=label64_any x V vn vc v (some adT) N6 N6 ts m i P rest wr HOK.out (hx.below hbw) (hV.below hbw) hT.ints hP hrest (by omega) (by omega) (by rw [←HNN.out];exact hlt) hlti HBIT.out (fun j hj=>hts.out.get (by omega) hlt (by rw [←HVN.out];exact hv6) j (by rw [←HVN.out];exact hj))
      clear hre hP hpw hrest hN' hS'
      go_wp2_with fail
      refine CL.mono ?_
      obtain ⟨L,hL⟩:∃ L,L=K.lab x.nd x.l x.s x.r v m i:=⟨_,rfl⟩
      rw [←hL]
      rintro e w3 ⟨rfl,b3⟩
      have hT3:=hT.below b3
      have hbr3:Below w1.heap.size w1 w3:=bel hbr b3
      have hown3:=own_below hown b3
      have hsz3:w2.heap.size≤w3.heap.size:=Nat.le_trans hsz b3.size
      clear CL p0 p1 s0 s1 s2 s3 s4 s5 hT hown hbr hsz b3 hbw
      obtain ⟨m6,hm6⟩:∃ m6:Nat,m6=m * 6:=⟨_,rfl⟩
      obtain ⟨z,hz⟩:∃ z:Nat,z=m6 + i:=⟨_,rfl⟩
      have HZ:=Lib.hid (show z=m * 6 + i by rw [hz,hm6])
      have hzN:z < N6:=by rw [HN6.out];omega
      obtain ⟨old,hold⟩:∃ old,ts[z]? = some old:=⟨_,List.getElem?_eq_getElem (by rw [←hT3.1];exact hzN)⟩
      have cz:=hT3.cell hold
      have fz:=hT3.free z
      have kw1:IntKind.i64.wrap ((m:Int) * 6)=(m6:Int):=by rw [IntWalk.i64_in _ (by omega)];omega
      have kw3:IntKind.i64.wrap ((m6:Int) + (i:Int))=(z:Int):=by rw [IntWalk.i64_in _ (by omega)];omega
      have kk0:(0:Int)≤(z:Int):=by omega
      have kk1:(z:Int) < (N6:Int):=by omega
      obtain ⟨w4,hw4⟩:∃ w4:World,w4=w3.setCell (adT.add z) (.int .i64 L):=⟨_,rfl⟩
      have hT4:OI w4 adT N6 N6 (ts.set z L):=by rw [hw4];exact hT3.set z L
      have hbr4:Below w1.heap.size w1 w4:=by rw [hw4];exact hbr3.setCell (by rw [add_block,hadb];exact Nat.le_refl _) _
      have z4:w4.heap.size=w3.heap.size:=by rw [hw4];simp
      have hown4:w4.ownsRow w2.heap.size 167 3 u9 (K.nlab x.nd x.l x.s x.r v m i) (((K.labs x.nd x.l x.s x.r v).take (K.nlab x.nd x.l x.s x.r v m i)).flatMap labCells):=by
       rw [hw4];exact own_put hown3 hT3 z _ (by omega)
      have HNX:=Lib.hid (K.nlab_next (nd:=x.nd) (l:=x.l) (s:=x.s) (r:=x.r) (v:=v) HBIT.out)
      have hnth:=K.labs_nth (nd:=x.nd) (l:=x.l) (s:=x.s) (r:=x.r) HOK.out (by rw [←HNN.out];exact hlt) (by rw [←HVN.out];exact hlti) HBIT.out
      rw [←hL] at hnth
      have HTK:=Lib.hid (take_snoc hnth)
      have hnl2:K.nlab x.nd x.l x.s x.r v m (i + 1)≤(K.labs x.nd x.l x.s x.r v).length:=by rw [HNX.out];exact (List.getElem?_eq_some_iff.1 hnth).1
      have HT5:=Lib.hid (show K.TSat x.nd x.l x.s x.r v N (ts.set z L) m (i + 1) by rw [hL];exact hts.out.put HZ.out (by rw [←HVN.out];exact hv6) (by rw [←HVN.out];exact hlti) hlt)
      have hll:=K.labs_len x.nd x.l x.s x.r v
      have hln:K.nlab x.nd x.l x.s x.r v m i≤1000000:=by omega
      have hsz4:w2.heap.size≤w4.heap.size:=by omega
      clear hm6 hz hold hL hnth hll hts hT3 hown3 hbr3 hnl
      go_upto_region 14 with fail
      rw [←hw4]
      clear hw4 cz fz kw1 kw3 kk0 kk1 z4 hsz3
      have ha:Below w4.heap.size w4 (w4.alloc (.cells #[.int .i64 (m:Int),.int .i64 (i:Int),.int .i64 L] 167)):=(Below.refl _ _).alloc (Nat.le_refl _) _
      have hown5:=own_below hown4 ha
      have hs2:w2.heap.size≤(w4.alloc (.cells #[.int .i64 (m:Int),.int .i64 (i:Int),.int .i64 L] 167)).heap.size:=Nat.le_trans hsz4 ha.size
      go_wp2_with (at_builtin;refine app_lab rfl (.tmp 58) (.tmp 63) rfl w2.heap.size u9 (K.nlab x.nd x.l x.s x.r v m i) ((K.labs x.nd x.l x.s x.r v).take (K.nlab x.nd x.l x.s x.r v m i)) rfl hown5 w4.heap.size m i L rfl (heap_alloc_at _ _ _ rfl) hln hs2 ?_;intro tv' w6 hown6 hgrow6 hat6)
      have b6:Below w1.heap.size w1 w6:=below_own2 (bel hbr4 ha) hgrow6 (fun g e=>by have:=(hown4.lt g e).1;omega)
      have hT6:OI w6 adT N6 N6 (ts.set z L):=(hT4.below ha).grown hgrow6 (fun e=>by have:=(hown4.lt _ e.symm).1;omega)
      have hsz6:w2.heap.size≤w6.heap.size:=Nat.le_trans hs2 hgrow6.size
      rw [←HTK.out,←HNX.out] at hown6
      clear hgrow6 hat6 hown5 hown4 hT4 ha hs2
      go_roundw
      case rel=>(go_light;exact ⟨i + 1,_,by go_num,hlti,hT6,HT5.out,hnl2,hown6,b6,hsz6⟩)
      case measure=>(go_light;simp [intOf] <;> omega)
    ·have HRW:=Lib.hid (K.nlab_row (nd:=x.nd) (l:=x.l) (s:=x.s) (r:=x.r) (v:=v) m)
     have hin:i=v.length:=by rw [←HVN.out];omega
     have HT5:=Lib.hid (show K.TSat x.nd x.l x.s x.r v N ts (m + 1) 0 by have h:=hts.out;rw [hin] at h;exact h.row)
     rw [hin,HRW.out] at hown hnl
     clear hin hts
     go_wp2_with fail
     go_roundw
     case rel=>exact ⟨m + 1,ts,by go_num,by omega,by omega,hT,HT5.out,hnl,hown,hbr,hsz⟩
     case measure=>simp [intOf];omega
  ·have hmN':m=N:=by omega
   have he:=K.nlab_end (nd:=x.nd) (l:=x.l) (s:=x.s) (r:=x.r) HOK.out
   rw [hmN',HNN.out,he,List.take_length] at hown
   obtain ⟨A9,c9,rfl,hRd,-⟩:=own_form hown
   have hw1:decide ((m:Int) < IntKind.i64.wrap ((2:Int) ^ vn))=false:=by rw [HW1.out];simp;omega
   have hw2:decide ((m:Int) < wrap64 ((2:Int) ^ vn))=false:=by rw [HW2.out];simp;omega
   clear he hmN' hts hown
   go_wp2_with fail
   clear hw1 hw2
   go_ret
   exact ⟨⟨_,_,_,rfl,⟨rfl,hRd⟩⟩,bel hb hbr⟩
end Go.Proofs.YtippdjmpkafifaaGreat
