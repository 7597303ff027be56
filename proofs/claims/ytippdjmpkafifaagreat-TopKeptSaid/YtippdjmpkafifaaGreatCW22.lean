import Derived.Test.YtippdjmpkafifaaGreatCW16
import Derived.Test.YtippdjmpkafifaaGreatCW13
import Derived.Test.YtippdjmpkafifaaGreatCW21
import Derived.Deep.Slices
import Derived.Deep.Fields
import Derived.ChangeSame
import Derived.ProofKit
import Derived.OpenShut
import Derived.Test.YtippdjmpkafifaaGreatCW1
import Derived.Test.YtippdjmpkafifaaGreatCW4
import Derived.Test.YtippdjmpkafifaaGreatCW6
import Derived.Test.YtippdjmpkafifaaGreatCW12
namespace Go.Proofs.YtippdjmpkafifaaGreat
open Go.RowKit
namespace K
section
variable {nd : Int} {l : List Ro} {rest : List S} {r : List Q}
theorem kp_has (hp:pcheck nd l rest [] = 0) {i:Nat} {x:Q} (hx:r[i]? = some x):(kpAt nd l rest r i).kept.length≤(keepGo nd l rest 0 r Kp.zero).kept.length∧((keepGo nd l rest 0 r Kp.zero).kept.drop (kpAt nd l rest r i).kept.length).contains (i:Int)=keepYes nd l rest (kpAt nd l rest r i) x:=by
 have hlt:i < r.length:=(List.getElem?_eq_some_iff.1 hx).1
 obtain ⟨K',R',h1,h2,-⟩:=keepGo_ext (nd:=nd) (l:=l) (rest:=rest) (r.drop i) i (kpAt nd l rest r i)
 rw [←kpAt_split (Nat.le_of_lt hlt)] at h1
 have h3:=(kept_at hp hx).1
 have hk:=kpAt_ok (nd:=nd) (l:=l) (rest:=rest) (r:=r) hp (Nat.le_of_lt hlt)
 rw [h1] at h3 ⊢
 refine ⟨by rw [List.length_append];omega,?_⟩
 rw [List.drop_left,←h3,Bool.eq_iff_iff,List.contains_iff_mem,List.contains_iff_mem,List.mem_append]
 refine ⟨.inr,fun h=>h.resolve_left fun g=>?_⟩
 have:=(hk.lt _ g).2
 omega
theorem kp_step (i:Nat) {x:Q} (hx:r[i]? = some x):(kpAt nd l rest r (i + 1)).kept.length=(kpAt nd l rest r i).kept.length + (if keepYes nd l rest (kpAt nd l rest r i) x=true then 1 else 0)∧(kpAt nd l rest r (i + 1)).served=if keepYes nd l rest (kpAt nd l rest r i) x=true then (kpAt nd l rest r i).served ++ [x] else (kpAt nd l rest r i).served:=by
 rw [kpAt_succ hx]
 unfold keepStep
 split
 ·exact ⟨by rw [List.length_append,List.length_singleton],rfl⟩
 ·exact ⟨rfl,rfl⟩
theorem keepGo_le:∀ (r:List Q) (i:Nat) (k:Kp),(keepGo nd l rest i r k).kept.length≤k.kept.length + r.length
 | [],i,k=>Nat.le_refl _
 | x :: r,i,k=>by
  have h:=keepGo_le r (i + 1) (keepStep nd l rest i x k)
  have h2:(keepStep nd l rest i x k).kept.length≤k.kept.length + 1:=by
   unfold keepStep
   split
   ·rw [List.length_append,List.length_singleton];exact Nat.le_refl _
   ·exact Nat.le_succ _
  rw [keepGo,List.length_cons]
  omega
theorem kept_le (r:List Q):(keepGo nd l rest 0 r Kp.zero).kept.length≤r.length:=by
 have:=keepGo_le (nd:=nd) (l:=l) (rest:=rest) r 0 Kp.zero
 rwa [show Kp.zero.kept.length=0 from rfl,Nat.zero_add] at this
theorem restGo_nil:∀ (ss:List S) (i:Nat),restGo [] i ss=ss
 | [],_=>rfl
 | s :: ss,i=>by
  rw [restGo,if_neg (by simp),restGo_nil ss (i + 1)]
theorem keep_none {ss:List S} (h0:restE nd l ss r [] = 0) (h:(plan nd l ss r).2=0):(keep34 nd l ss r []).1.kept.length=r.length:=by
 have:=kept_all (rest:=ss) h r.length 0 Kp.zero (by omega) rfl
 unfold keep34
 rw [if_pos h0,restGo_nil]
 rw [List.drop_zero] at this
 rw [this]
 exact Nat.zero_add _
end
end K
theorem T.few_n6 {s:S} {r:List Q} {m:Nat} (h:T.few s r m=true):s.n≤6:=by
 simp only [T.few,Bool.and_eq_true,decide_eq_true_eq] at h
 exact h.2.1
theorem plan_er (x:Cs) (w:World) (hx:CsAt w x) {er:Int} (h:(K.plan x.nd x.l x.ss x.r).2=er) :
  Calls Tryz.prog 20 #[.agg #[.int .i64 x.nd,.slice x.A x.n x.c],.slice x.SA x.sn x.sc,.slice x.B x.m x.d] w fun e w'=>(∃ A n c,e=.returned (.tuple #[.slice A n c,.int .i64 er]))∧Below w.heap.size w w':=by
 refine Calls.mono (plan32X x w hx) ?_
 rintro e w' ⟨⟨A,n,c,l,rfl,-⟩,hb⟩
 subst h
 exact ⟨⟨A,n,c,rfl⟩,hb⟩
set_option maxRecDepth 100000 in
set_option maxHeartbeats 32000000 in
theorem topKept_any (x:Cs) (LA:Option Addr) (ln lc:Nat) (lost:List Int) (w:World) (hR:Roads w x.A x.n x.l) (hS:Shifts w x.SA x.sn x.ss) (hQ:Reqs w x.B x.m x.r) (hL:Ints w LA ln lost) :
  Calls Tryz.prog 15 #[.agg #[.int .i64 x.nd,.slice x.A x.n x.c],.slice x.SA x.sn x.sc,.slice x.B x.m x.d,.slice LA ln lc] w fun e w'=>e=.returned (.bool true)∧Below w.heap.size w w':=by
 obtain ⟨w1,hw1⟩:∃ w1:World,w1=w.alloc (.cells #[.int .i64 x.nd,.slice x.A x.n x.c] 24):=⟨_,rfl⟩
 obtain ⟨g0,hg0⟩:∃ g,g=w.heap.size:=⟨_,rfl⟩
 have b1:Below w.heap.size w w1:=by rw [hw1];exact bel_alc _ _
 have hB0:w1.heap[g0]? = some (.cells #[.int .i64 x.nd,.slice x.A x.n x.c] 24 (0,0)):=by rw [hw1,hg0];exact heap_alloc_new _ _
 have HRN:=Lib.hid hQ.1
 have HSN:=Lib.hid hS.1.1
 have HLN:=Lib.hid hL.1
 go_enter Tryz.func15,Tryz.ntmps15
 go_wp2_with fail
 rw [←hw1,←hg0]
 clear hw1 hg0
 refine (wholeLive_any _).mono ?_
 rintro e w2 ⟨rfl,b2⟩
 have hb2:=bel b1 b2
 have hB02:=blk_below b2 hB0
 have p0:=blk_cell hB02 0 _ rfl
 have p1:=blk_cell hB02 1 _ rfl
 have CF:=wholeFew_any x 4 (by decide) w2 (Lst.below hR hb2) (hS.below hb2) (hQ.below hb2)
 obtain ⟨zf,hzf⟩:∃ z,z=K.topFew x.nd x.n x.l x.ss x.r 4:=⟨_,rfl⟩
 rw [←hzf,show ((4:Nat):Int)=4 from rfl] at CF
 have HZF:=Lib.hid hzf
 clear hzf
 go_wp2_with fail
 refine CF.mono ?_
 rintro e w3 ⟨rfl,b3⟩
 have hb3:=bel hb2 b3
 have hB03:=blk_below b3 hB02
 clear CF p0 p1
 cases zf
 ·go_wp2_with fail
  go_ret
  exact ⟨rfl,hb3⟩
 have HF:=Lib.hid (topFew_iff HZF.out.symm)
 have hm4:x.m≤4:=by rw [HRN.out];exact HF.out.m
 have hs2:x.sn≤2:=by rw [HSN.out];exact HF.out.sn
 by_cases hl4:ln≤4
 rotate_left
 ·have d1:decide ((4:Int) < (ln:Int))=true:=by simp;omega
  have d2:decide (4 < ln)=true:=by simp;omega
  clear hl4
  go_wp2_with fail
  go_ret
  exact ⟨rfl,hb3⟩
 have d1:decide ((4:Int) < (ln:Int))=false:=by simp;omega
 have d2:decide (4 < ln)=false:=by simp;omega
 have hx3:CsAt w3 x:=⟨Lst.below hR hb3,hS.below hb3,hQ.below hb3,by have:=HF.out.few;simp only [K.few27] at this;simp at this;omega,fun s hs=>by have:=T.few_n6 (HF.out.s s hs).1;omega,by omega,by omega,fun q hq=>by have:=(HF.out.r q hq).1;omega⟩
 have hsr:∀ s ∈ x.ss,s.n≤1000000:=fun s hs=>by have:=T.few_n6 (HF.out.s s hs).1;omega
 obtain ⟨w4,hw4⟩:∃ w4:World,w4=w3.alloc (.cells #[.int .i64 x.nd,.slice x.A x.n x.c,.slice x.SA x.sn x.sc,.slice x.B x.m x.d] 44):=⟨_,rfl⟩
 obtain ⟨g4,hg4⟩:∃ g,g=w3.heap.size:=⟨_,rfl⟩
 have b4:Below w3.heap.size w3 w4:=by rw [hw4];exact bel_alc _ _
 have hB4:w4.heap[g4]? = some (.cells #[.int .i64 x.nd,.slice x.A x.n x.c,.slice x.SA x.sn x.sc,.slice x.B x.m x.d] 44 (0,0)):=by rw [hw4,hg4];exact heap_alloc_new _ _
 have hB04:=blk_below b4 hB03
 have p0:=blk_cell hB03 0 _ rfl
 have p1:=blk_cell hB03 1 _ rfl
 have hx4:=hx3.below b4
 go_upto_region 5 with fail
 rw [←hw4,←hg4]
 clear hw4 hg4 p0 p1 d1 d2
 obtain ⟨e1,he1⟩:∃ e,(K.plan x.nd x.l x.ss x.r).2=e:=⟨_,rfl⟩
 have CP:=plan_er x w4 hx4 he1
 have HE1:=Lib.hid he1
 clear he1
 have p0:=blk_cell hB04 0 _ rfl
 have p1:=blk_cell hB04 1 _ rfl
 go_wp2_with fail
 refine CP.mono ?_
 rintro e w5 ⟨⟨PA,pn,pc,rfl⟩,b5⟩
 clear CP p0 p1
 have hB45:=blk_below b5 hB4
 have hb5:=bel (bel hb3 b4) b5
 have hx5:=hx4.below b5
 have q0:=blk_cell hB45 0 _ rfl
 have q1:=blk_cell hB45 1 _ rfl
 have q2:=blk_cell hB45 2 _ rfl
 have q3:=blk_cell hB45 3 _ rfl
 have CR:=rest45_any x LA ln lc lost w5 hx5 (hL.below hb5) (by omega) (by omega) hsr
 obtain ⟨er,her⟩:∃ er,er=K.restE x.nd x.l x.ss x.r lost:=⟨_,rfl⟩
 rw [←her] at CR
 have HER:=Lib.hid her
 clear her
 go_wp2_with fail
 refine CR.mono ?_
 rintro e w6 ⟨⟨RA,rn,rc,RL,rfl,hRS,hRB⟩,b6⟩
 clear CR q0 q1 q2 q3
 have hb6:=bel hb5 b6
 have hB46:=blk_below b6 hB45
 have hB06:=blk_below (bel b5 b6) hB04
 have hx6:=hx5.below b6
 by_cases hz1:e1=0
 rotate_left
 ·have d1:(e1 != 0)=true:=by simp [bne,hz1]
  have d2:decide (e1=0)=false:=by simp [hz1]
  clear hz1
  go_wp2_with fail
  go_ret
  exact ⟨rfl,hb6⟩
 subst hz1
 by_cases hz:er=0
 rotate_left
 ·have d1:(er != 0)=true:=by simp [bne,hz]
  have d2:decide (er=0)=false:=by simp [hz]
  clear hz
  go_wp2_with fail
  go_ret
  exact ⟨rfl,hb6⟩
 subst hz
 have hE0:K.restE x.nd x.l x.ss x.r lost=0:=HER.out.symm
 have HP:=Lib.hid (K.restE_0 hE0).2
 obtain ⟨R,hRR⟩:∃ R,R=K.rest34 x.nd x.l x.ss x.r lost:=⟨_,rfl⟩
 rw [←hRR] at hRB
 have HR:=Lib.hid (show R=K.restGo lost 0 x.ss by rw [hRR];unfold K.rest34;rw [if_pos hE0])
 obtain ⟨hrn,hrs⟩:=rest_small hx6 (by omega) hsr (by rw [hRR];exact rest34_sub) hRS hRB
 obtain ⟨kk,hkk⟩:∃ kk,kk=K.keepGo x.nd x.l R 0 x.r K.Kp.zero:=⟨_,rfl⟩
 have hKR:K.keep34 x.nd x.l x.ss x.r lost=(kk,0):=by unfold K.keep34;rw [if_pos hE0,hkk,HR.out]
 have HKK:=Lib.hid hkk
 have hck:=K.keep_check (nd:=x.nd) (l:=x.l) (ss:=x.ss) (r:=x.r) (lost:=lost) (by rw [←HSN.out];omega) (by rw [←HRN.out];omega) hE0
 have CK:=keep47c_any x LA ln lc lost w6 hx6 (hL.below hb6) (by omega) (by omega) hsr
 rw [hKR] at CK hck
 dsimp only at CK hck
 have HNL:=Lib.hid (show ln=0→kk.kept.length=x.m from fun h=>by
  have hl:lost=[]:=List.length_eq_zero_iff.1 (by rw [←HLN.out];exact h)
  have h9:=K.keep_none (nd:=x.nd) (l:=x.l) (ss:=x.ss) (r:=x.r) (by rw [←hl];exact hE0) HE1.out
  rw [←hl,hKR] at h9
  rw [HRN.out]
  exact h9)
 have HCK:=Lib.hid hck
 have HRB:=Lib.hid hRB
 clear hKR hkk hck hRR hRB hE0
 have q0:=blk_cell hB46 0 _ rfl
 have q1:=blk_cell hB46 1 _ rfl
 have q2:=blk_cell hB46 2 _ rfl
 have q3:=blk_cell hB46 3 _ rfl
 go_wp2_with fail
 refine CK.mono ?_
 rintro e w7 ⟨⟨KA,kn,kc,FA,fn,fc,d,rfl,⟨hKI,hkc⟩,hKT,-,hFT,hts,hKR,hFR,hrs2⟩,b7⟩
 clear CK q0 q1 q2 q3
 have hb7:=bel hb6 b7
 have hB47:=blk_below b7 hB46
 have hB07:=blk_below b7 hB06
 have hx7:=hx6.below b7
 have HTS:=Lib.hid hts
 have HRS2:=Lib.hid hrs2
 have HKN:=Lib.hid hKI.1
 clear hts hrs2
 have hkm:kn≤x.m:=by
  rw [HKN.out,HKK.out,HRN.out]
  exact K.kept_le x.r
 have CC:=check52_any x LA ln lc lost KA kn kc kk.kept d.TA d.tn d.tc d.ts FA fn fc d.L w7 hx7 (hL.below hb7) hKI hKT hKR (by omega) (by omega) hFT hFR (by omega) hsr
 rw [HTS.out,HRS2.out,HCK.out] at CC
 have q0:=blk_cell hB47 0 _ rfl
 have q1:=blk_cell hB47 1 _ rfl
 have q2:=blk_cell hB47 2 _ rfl
 have q3:=blk_cell hB47 3 _ rfl
 go_wp2_with fail
 refine CC.mono ?_
 rintro e w8 ⟨rfl,b8⟩
 clear CC q0 q1 q2 q3 hKT hKR hFT hFR
 have hb8:=bel hb7 b8
 have hB08:=blk_below b8 hB07
 have hx8:=hx7.below b8
 have hKI8:=hKI.below b8
 have hRS8:=(hRS.below b7).below b8
 have hP0:=Lib.hid (show K.pcheck x.nd x.l R [] = 0 from K.pcheck_less HP.out (by rw [HR.out];exact K.restGo_sub _ _) (List.nil_sublist _))
 have hPR:=Lib.hid (show K.pcheck x.nd x.l R x.r=0 from K.pcheck_less HP.out (by rw [HR.out];exact K.restGo_sub _ _) (List.Sublist.refl _))
 have hR4:=Lib.hid (show R.length≤4 by rw [HR.out];have:=(K.restGo_sub (lost:=lost) x.ss 0).length_le;rw [←HSN.out] at this;omega)
 by_cases hl0:ln=0
 ·have hnm:=HNL.out hl0
  rw [←HKN.out] at hnm
  have d1:((ln:Int) == 0)=true:=by simp [hl0]
  have d2:decide ((ln:Int)=0)=true:=by simp [hl0]
  have d3:((kn:Int) != (x.m:Int))=false:=by simp [bne,hnm]
  have d4:decide ((kn:Int)=(x.m:Int))=true:=by simp [hnm]
  have d5:decide (kn=x.m)=true:=by simp [hnm]
  have d6:decide (ln=0)=true:=by simp [hl0]
  clear hl0 hnm
  go_upto_region 12 with fail
  clear d1 d2 d3 d4 d5 d6
  obtain ⟨w9,hw9⟩:∃ w9:World,w9=w8.alloc (.cells #[] 47):=⟨_,rfl⟩
  have b9:Below w8.heap.size w8 w9:=by rw [hw9];exact bel_alc _ _
  have hb9:=bel hb8 b9
  go_upto_region 13 with fail
  rw [←hw9]
  clear hw9
  go_wp2_with fail
  go_loopw [19,20,21] (fun v19 v20 v21 wr=>∃ (i a:Nat) (VA:Option Addr) (vn vc:Nat) (sv:List Q),v21=.int .i64 (i:Int)∧i≤x.m∧v20=.int .i64 (a:Int)∧v19=.slice VA vn vc∧Reqs wr VA vn sv∧Hid (a=(K.kpAt x.nd x.l R x.r i).kept.length∧sv=(K.kpAt x.nd x.l R x.r i).served)∧vn≤i∧(∀ p ∈ sv,p ∈ x.r)∧Below w9.heap.size w9 wr) (fun _ _ v21 _=>x.m - (intOf v21).toNat)
  case atStart=>exact ⟨0,0,_,_,_,[],rfl,Nat.zero_le _,rfl,rfl,⟨rfl,⟨rfl,fun h=>absurd h (Nat.lt_irrefl 0)⟩,fun p h=>(by cases h)⟩,Lib.hid ⟨rfl,rfl⟩,Nat.le_refl _,fun p h=>(by cases h),Below.refl _ _⟩
  case round =>
   obtain ⟨i,a,VA,vn,vc,sv,rfl,hi,rfl,rfl,hSV,hka,hvi,hin,hbr⟩:=hrel
   have hbw:=bel hb9 hbr
   by_cases hlt:i < x.m
   ·obtain ⟨adB,q,hA,hq,hW,c0,c1,c2,c3,c4,c5,c6⟩:=(hQ.below hbw).at_ hlt
    have HQ:=Lib.hid hq
    have k0:(0:Int)≤(i:Int):=by omega
    have k1:(i:Int) < (x.m:Int):=by omega
    have kd:decide ((i:Int) < (x.m:Int))=true:=decide_eq_true k1
    have kd2:decide (i < x.m)=true:=decide_eq_true hlt
    have HMK:=Lib.hid (show ∀ w',Below wr.heap.size wr w'→(fun w':World=>w'.cell? (adB.add (i * 7))=some (.int .i64 q.node)∧w'.cell? ⟨(adB.add (i * 7)).block,(adB.add (i * 7)).off + 1,none⟩=some (.int .i64 q.room)∧w'.cell? ⟨(adB.add (i * 7)).block,(adB.add (i * 7)).off + 2,none⟩=some (.int .i64 q.kilos)∧w'.cell? ⟨(adB.add (i * 7)).block,(adB.add (i * 7)).off + 3,none⟩=some (.int .i64 q.service)∧w'.cell? ⟨(adB.add (i * 7)).block,(adB.add (i * 7)).off + 4,none⟩=some (.int .i64 q.frm)∧w'.cell? ⟨(adB.add (i * 7)).block,(adB.add (i * 7)).off + 5,none⟩=some (.int .i64 q.by_)∧w'.cell? ⟨(adB.add (i * 7)).block,(adB.add (i * 7)).off + 6,none⟩=some (.slice q.A q.n q.c)) w' from fun w' h =>
     ⟨(h.cell (cell_lt c0)).trans c0,(h.cell (cell_lt c1)).trans c1,(h.cell (cell_lt c2)).trans c2,(h.cell (cell_lt c3)).trans c3,(h.cell (cell_lt c4)).trans c4,(h.cell (cell_lt c5)).trans c5,(h.cell (cell_lt c6)).trans c6⟩)
    have hREQ:=hSV
    have hRq0:Rd wr 7 VA vn (sv.flatMap Q.cells):=by have h:=hSV.2.1;rw [reqCells_flat] at h;exact h
    have HAQ:=Lib.hid hA
    rw [hA]
    clear hA
    go_upto_region 17 with fail
    clear kd kd2 hq c0 c1 c2 c3 c4 c5 c6
    have hWW:Below wr.heap.size wr wr:=Below.refl _ _
    have Fd:Below wr.heap.size wr wr.drew:=hWW.drew
    have Fz:Below wr.heap.size wr (wr.alloc (.cells #[] 47)):=bel_alc _ _
    have S0:=HMK.out _ hWW
    have S0d:=HMK.out _ Fd
    have S0z:=HMK.out _ Fz
    have S0zd:=HMK.out _ Fz.drew
    obtain ⟨i0,hi,hzz0,hzz1,hzz2⟩:=info_parts clone120_info
    have hone:∀ u ∈ sv.flatMap Q.cells,u.oneCell'=true:=flat_one Q.cells req_one _
    have hone2:∀ u ∈ q.cells,u.oneCell'=true:=req_one q
    have hm63:0 + vn≤maxLen:=by simp only [maxLen];omega
    have hm47:(0 + vn) * 72≤140737488355328:=by omega
    have hn63:vn + 1≤maxLen:=by simp only [maxLen];omega
    have hn47:(vn + 1) * 72≤140737488355328:=by omega
    have Cz:∀ g,(Value.slice (some ⟨wr.heap.size,0,none⟩) 0 0).ownBlock=some g→wr.heap.size≤g:=fun g e=>by injection e with e;rw [←e];exact Nat.le_refl _
    have Oa:(wr.alloc (.cells #[] 47)).drew.ownsRow wr.heap.size 47 7 (.slice (some ⟨wr.heap.size,0,none⟩) 0 0) 0 []:=own_lit (heap_alloc_new wr (.cells #[] 47)) (Nat.le_refl _)
    have Rq:Rd wr 7 (VA) vn (sv.flatMap Q.cells):=hRq0
    have Ra:=Rq.below Fz.drew
    have Oz:True:=trivial
    have Fx:Below wr.heap.size wr (wr.alloc (.cells #[.int .i64 q.node,.int .i64 q.room,.int .i64 q.kilos,.int .i64 q.service,.int .i64 q.frm,.int .i64 q.by_,.slice q.A q.n q.c] 47)):=bel_alc _ _
    have Fzx:Below wr.heap.size wr ((wr.alloc (.cells #[] 47)).alloc (.cells #[.int .i64 q.node,.int .i64 q.room,.int .i64 q.kilos,.int .i64 q.service,.int .i64 q.frm,.int .i64 q.by_,.slice q.A q.n q.c] 47)):=bel Fz (bel_alc _ _)
    have Fxz:Below wr.heap.size wr ((wr.alloc (.cells #[.int .i64 q.node,.int .i64 q.room,.int .i64 q.kilos,.int .i64 q.service,.int .i64 q.frm,.int .i64 q.by_,.slice q.A q.n q.c] 47)).alloc (.cells #[] 47)):=bel Fx (bel_alc _ _)
    have S0x:=HMK.out _ Fx
    have S0zx:=HMK.out _ Fzx
    have S0xz:=HMK.out _ Fxz
    have S0xd:=HMK.out _ Fx.drew
    have S0zxd:=HMK.out _ Fzx.drew
    have S0xzd:=HMK.out _ Fxz.drew
    have Ob:((wr.alloc (.cells #[] 47)).alloc (.cells #[.int .i64 q.node,.int .i64 q.room,.int .i64 q.kilos,.int .i64 q.service,.int .i64 q.frm,.int .i64 q.by_,.slice q.A q.n q.c] 47)).drew.ownsRow wr.heap.size 47 7 (.slice (some ⟨wr.heap.size,0,none⟩) 0 0) 0 []:=own_lit (blk_alloc (heap_alloc_new wr (.cells #[] 47)) (.cells #[.int .i64 q.node,.int .i64 q.room,.int .i64 q.kilos,.int .i64 q.service,.int .i64 q.frm,.int .i64 q.by_,.slice q.A q.n q.c] 47)) (Nat.le_refl _)
    have Oc:((wr.alloc (.cells #[.int .i64 q.node,.int .i64 q.room,.int .i64 q.kilos,.int .i64 q.service,.int .i64 q.frm,.int .i64 q.by_,.slice q.A q.n q.c] 47)).alloc (.cells #[] 47)).drew.ownsRow wr.heap.size 47 7 (.slice (some ⟨wr.heap.size + 1,0,none⟩) 0 0) 0 []:=own_lit (heap_alloc_at (wr.alloc (.cells #[.int .i64 q.node,.int .i64 q.room,.int .i64 q.kilos,.int .i64 q.service,.int .i64 q.frm,.int .i64 q.by_,.slice q.A q.n q.c] 47)) (.cells #[] 47) _ (World.size_alloc _ _).symm) (Nat.le_succ _)
    have Xb:((wr.alloc (.cells #[] 47)).alloc (.cells #[.int .i64 q.node,.int .i64 q.room,.int .i64 q.kilos,.int .i64 q.service,.int .i64 q.frm,.int .i64 q.by_,.slice q.A q.n q.c] 47)).drew.heap[wr.heap.size + 1]? = some (.cells #[.int .i64 q.node,.int .i64 q.room,.int .i64 q.kilos,.int .i64 q.service,.int .i64 q.frm,.int .i64 q.by_,.slice q.A q.n q.c] 47 (0,0)):=heap_alloc_at (wr.alloc (.cells #[] 47)) (.cells #[.int .i64 q.node,.int .i64 q.room,.int .i64 q.kilos,.int .i64 q.service,.int .i64 q.frm,.int .i64 q.by_,.slice q.A q.n q.c] 47) _ (World.size_alloc _ _).symm
    have Xc:((wr.alloc (.cells #[.int .i64 q.node,.int .i64 q.room,.int .i64 q.kilos,.int .i64 q.service,.int .i64 q.frm,.int .i64 q.by_,.slice q.A q.n q.c] 47)).alloc (.cells #[] 47)).drew.heap[wr.heap.size]? = some (.cells #[.int .i64 q.node,.int .i64 q.room,.int .i64 q.kilos,.int .i64 q.service,.int .i64 q.frm,.int .i64 q.by_,.slice q.A q.n q.c] 47 (0,0)):=blk_alloc (heap_alloc_new wr (.cells #[.int .i64 q.node,.int .i64 q.room,.int .i64 q.kilos,.int .i64 q.service,.int .i64 q.frm,.int .i64 q.by_,.slice q.A q.n q.c] 47)) (.cells #[] 47)
    have Rb:=Rq.below Fzx.drew
    have Rc:=Rq.below Fxz.drew
    have hRX:∀ (W:World) (gg:Nat),W.heap[gg]? = some (.cells #[.int .i64 q.node,.int .i64 q.room,.int .i64 q.kilos,.int .i64 q.service,.int .i64 q.frm,.int .i64 q.by_,.slice q.A q.n q.c] 47 (0,0))→Rd W 7 (some ⟨gg,0,none⟩) 1 (q.cells):=fun W gg h=>Rd.of_block h 7 1 rfl
    have HRX:=Lib.hid hRX
    have Cxz:∀ g,(Value.slice (some ⟨wr.heap.size + 1,0,none⟩) 0 0).ownBlock=some g→wr.heap.size≤g:=fun g e=>by injection e with e;rw [←e];exact Nat.le_succ _
    have Nb:some (wr.heap.size + 1) ≠ (Value.slice (some ⟨wr.heap.size,0,none⟩) 0 0).ownBlock:=fun e=>by injection e with e;dsimp only at e;omega
    have Nc:some wr.heap.size ≠ (Value.slice (some ⟨wr.heap.size + 1,0,none⟩) 0 0).ownBlock:=fun e=>by injection e with e;dsimp only at e;omega
    clear hRX
    go_cut [22] from 100 to 108 (fun v22 wc=>∃ A7 k7,v22=.slice A7 (vn + 1) k7∧Rd wc 7 A7 (vn + 1) (sv.flatMap Q.cells ++ q.cells)∧Below wr.heap.size wr wc)
    case first =>
     go_region_held3 (fun w':World=>w'.cell? (adB.add (i * 7))=some (.int .i64 q.node)∧w'.cell? ⟨(adB.add (i * 7)).block,(adB.add (i * 7)).off + 1,none⟩=some (.int .i64 q.room)∧w'.cell? ⟨(adB.add (i * 7)).block,(adB.add (i * 7)).off + 2,none⟩=some (.int .i64 q.kilos)∧w'.cell? ⟨(adB.add (i * 7)).block,(adB.add (i * 7)).off + 3,none⟩=some (.int .i64 q.service)∧w'.cell? ⟨(adB.add (i * 7)).block,(adB.add (i * 7)).off + 4,none⟩=some (.int .i64 q.frm)∧w'.cell? ⟨(adB.add (i * 7)).block,(adB.add (i * 7)).off + 5,none⟩=some (.int .i64 q.by_)∧w'.cell? ⟨(adB.add (i * 7)).block,(adB.add (i * 7)).off + 6,none⟩=some (.slice q.A q.n q.c))
      (first | with_reducible exact S7s | with_reducible exact S7 | with_reducible exact S6x | with_reducible exact S6 | with_reducible exact S0zxd | with_reducible exact S0xzd | with_reducible exact S0zd | with_reducible exact S0xd | with_reducible exact S0zx | with_reducible exact S0xz | with_reducible exact S0z | with_reducible exact S0x | with_reducible exact S0d | with_reducible exact S0 | fail)
      (first
       | (have h0:=Oz;clear Oz;apply step_append_rd (hgd:=rfl) (s:=.tmp 100) (x:=.tmp 101) (t:=26) (ho:=rfl) (base:=wr.heap.size) (e:=47) (i:=i0) (z:=(.agg #[.int .i64 0,.int .i64 0,.int .i64 0,.int .i64 0,.int .i64 0,.int .i64 0,.slice none 0 0])) (size:=7) (bytes:=72) (ht:=Tryz.underlying26) (hi:=hi) (hz:=hzz0) (hsize:=hzz1) (hby:=hzz2) (hzs:=rfl) (hsz:=by decide) (v:=.slice (some ⟨_,0,none⟩) 0 0) (n:=0) (xs:=[]) (hs:=rfl) (A:=VA) (m:=vn) (c:=vc) (news:=sv.flatMap Q.cells) (hx:=rfl) (h1:=hone) (h63:=hm63) (hbytes:=hm47);(first | with_reducible exact Oa | with_reducible exact Ob | with_reducible exact Oc | fail);(first | with_reducible exact Ra | with_reducible exact Rb | with_reducible exact Rc | fail);(first | with_reducible exact Fz.drew.size | with_reducible exact Fzx.drew.size | with_reducible exact Fxz.drew.size | fail);intro v6 w6 hown6 hgr6 hat6;(first | (have b6r:Below wr.heap.size wr w6:=by with_reducible exact below_own2 Fz.drew hgr6 Cz) | (have b6r:Below wr.heap.size wr w6:=by with_reducible exact below_own2 Fzx.drew hgr6 Cz) | (have b6r:Below wr.heap.size wr w6:=by with_reducible exact below_own2 Fxz.drew hgr6 Cxz) | fail);(first | (with_reducible (have hL:=grow_blk hgr6 Xb Nb)) | (with_reducible (have hL:=grow_blk hgr6 Xc Nc)) | skip);have S6:=HMK.out _ b6r;have F6x:Below w6.heap.size w6 (w6.alloc (.cells #[.int .i64 q.node,.int .i64 q.room,.int .i64 q.kilos,.int .i64 q.service,.int .i64 q.frm,.int .i64 q.by_,.slice q.A q.n q.c] 47)):=bel_alc _ _;have S6x:=HMK.out _ (bel b6r F6x);rw [Nat.zero_add,List.nil_append] at hown6)
       | (have h9:=hown6;clear hown6;apply step_append_rd (hgd:=rfl) (s:=.tmp 102) (x:=.tmp 107) (t:=26) (ho:=rfl) (base:=wr.heap.size) (e:=47) (i:=i0) (z:=(.agg #[.int .i64 0,.int .i64 0,.int .i64 0,.int .i64 0,.int .i64 0,.int .i64 0,.slice none 0 0])) (size:=7) (bytes:=72) (ht:=Tryz.underlying26) (hi:=hi) (hz:=hzz0) (hsize:=hzz1) (hby:=hzz2) (hzs:=rfl) (hsz:=by decide) (v:=v6) (n:=vn) (xs:=sv.flatMap Q.cells) (hs:=rfl) (A:=some ⟨_,0,none⟩) (m:=1) (c:=1) (news:=q.cells) (hx:=rfl) (h1:=hone2) (h63:=hn63) (hbytes:=hn47);rotate_right 1;(first | with_reducible exact h9 | with_reducible exact own_below h9 F6x | fail);(first | with_reducible exact HRX.out _ _ hL | with_reducible exact HRX.out _ _ (heap_alloc_new w6 _) | fail);(first | with_reducible exact b6r.size | with_reducible exact Nat.le_trans b6r.size F6x.size | fail);intro v7 w7 hown7 hgr7 hat7;obtain ⟨A7,k7,rfl,hRd7,hF7⟩:=own_form hown7;(first | (have b7r:Below wr.heap.size wr w7:=by with_reducible exact below_own2 b6r hgr7 (fun g e=>(h9.lt g e).1)) | (have b7r:Below wr.heap.size wr w7:=by with_reducible exact below_own2 (bel b6r F6x) hgr7 (fun g e=>(h9.lt g e).1)) | fail);have S7:=HMK.out _ b7r)
       | fail)
     all_goals go_wp2_with fail
     all_goals go_meet
     all_goals exact ⟨A7,k7,rfl,hRd7,b7r⟩
    case rest =>
     obtain ⟨A7,k7,rfl,hRd7,b5⟩:=hcut
     have hbc:=bel (bel b9 hbr) b5
     have hB0c:=blk_below hbc hB08
     have hKIc:=hKI8.below hbc
     have hRSc:=hRS8.below hbc
     have hSc:=hSV.below b5
     have hS5:Reqs wc A7 (vn + 1) (sv ++ [q]):=⟨by rw [List.length_append,←hSV.1];rfl,by rw [reqCells_flat,List.flatMap_append,List.flatMap_singleton];exact hRd7,fun p hp=>by
      rcases List.mem_append.1 hp with hp | hp
      ·exact hSc.2.2 p hp
      ·rw [List.mem_singleton.1 hp];exact hW.below b5⟩
     have hin5:∀ p ∈ sv ++ [q],p ∈ x.r:=fun p hp=>by
      rcases List.mem_append.1 hp with hp | hp
      ·exact hin p hp
      ·rw [List.mem_singleton.1 hp];exact List.mem_of_getElem? HQ.out
     clear hRq0 HMK Fd Fz S0 S0d S0z S0zd hone hone2 hm63 hm47 hn63 hn47 Cz Oa Rq Ra Oz Fx Fzx Fxz S0x S0zx S0xz S0xd S0zxd S0xzd Ob Oc Xb Xc Rb Rc HRX Cxz Nb Nc hRd7 hSV hSc
     have hCs:CsAt wc ⟨x.nd,x.A,x.n,x.c,x.l,RA,rn,rc,RL,A7,vn + 1,k7,sv ++ [q]⟩ :=
      ⟨Lst.below hx8.net hbc,hRSc,hS5,hx8.b1,fun s hs=>by have:=hrs s hs;omega,by show rn≤_;omega,by show vn + 1≤_;omega,fun p hp=>hx8.b5 p (hin5 p hp)⟩
     obtain ⟨e5,he5⟩:∃ e5,e5=(K.plan x.nd x.l R (sv ++ [q])).2:=⟨_,rfl⟩
     have CP:=plan_er ⟨x.nd,x.A,x.n,x.c,x.l,RA,rn,rc,RL,A7,vn + 1,k7,sv ++ [q]⟩ wc hCs (er:=e5) ((congrArg Prod.snd (show K.plan (Cs.nd ⟨x.nd,x.A,x.n,x.c,x.l,RA,rn,rc,RL,A7,vn + 1,k7,sv ++ [q]⟩) (Cs.l ⟨x.nd,x.A,x.n,x.c,x.l,RA,rn,rc,RL,A7,vn + 1,k7,sv ++ [q]⟩) (Cs.ss ⟨x.nd,x.A,x.n,x.c,x.l,RA,rn,rc,RL,A7,vn + 1,k7,sv ++ [q]⟩) (Cs.r ⟨x.nd,x.A,x.n,x.c,x.l,RA,rn,rc,RL,A7,vn + 1,k7,sv ++ [q]⟩)=K.plan x.nd x.l R (sv ++ [q]) from K.plan_same rfl HRB.out)).trans he5.symm)
     have HKY:=Lib.hid (show K.keepYes x.nd x.l R (K.kpAt x.nd x.l R x.r i) q=(e5 == 0) by unfold K.keepYes;rw [he5,hka.out.2])
     have HH:=Lib.hid (K.kp_has hP0.out HQ.out)
     have hal:a≤kn:=by
      rw [HKN.out,HKK.out,hka.out.1]
      exact HH.out.1
     have HC:=Lib.hid (show (kk.kept.drop a).any (· == (i:Int))=(e5 == 0) by rw [any_contains,HKK.out,hka.out.1,HH.out.2,HKY.out])
     have HN4:=Lib.hid (show e5 ≠ 0→e5=4 from fun h=>by
      have h9:=(K.not_kept hPR.out hR4.out (by rw [←HRN.out];omega) HQ.out (by rw [HKY.out];simp [h])).1
      rw [←hka.out.2] at h9
      rw [he5]
      exact h9)
     clear he5
     have p0:=blk_cell hB0c 0 _ rfl
     have p1:=blk_cell hB0c 1 _ rfl
     go_wp2_with fail
     refine CP.mono ?_
     rintro e w10 ⟨⟨TA,tn,tc,rfl⟩,b10⟩
     clear CP p0 p1 hCs
     have hKI10:=hKIc.below b10
     have hS10:=hS5.below b10
     have hb10:=bel b5 b10
     have hB010:=blk_below b10 hB0c
     by_cases hz:e5=0
     ·have HY:=Lib.hid (show K.keepYes x.nd x.l R (K.kpAt x.nd x.l R x.r i) q=true by rw [HKY.out];simp [hz])
      have hak:a < kn:=by
       rcases Nat.lt_or_ge a kn with h | h
       ·exact h
       ·have h9:=HC.out
        rw [List.drop_eq_nil_of_le (by rw [←HKN.out];exact h),hz] at h9
        cases h9
      have HC1:=HC.out
      subst hz
      obtain ⟨ad,rfl,-⟩:=hKI10.2.2 (by omega)
      have hac:¬ kc=a:=by omega
      have k8:(a:Int)≤(kn:Int):=by omega
      have k9:(kn:Int)≤(kc:Int):=by omega
      have d1:decide ((a:Int) < (kn:Int))=true:=by simp;omega
      have d2:decide (a < kn)=true:=by simp;omega
      have CH:=has55_any (some (ad.add a)) (kn - a) (kc - a) (kk.kept.drop a) i w10 (Ints.drop hKI10 rfl (k:=a) (by omega)) (by omega)
      rw [HC1,show ((0:Int) == 0)=true from rfl] at CH
      clear HC1
      go_wp2_with fail
      refine CH.mono ?_
      rintro e w11 ⟨rfl,b11⟩
      go_wp2_with fail
      have h11:=bel hb10 b11
      have hS11:=hS10.below b11
      clear CH d1 d2 hac k8 k9
      go_roundw
      case rel=>(go_light;exact ⟨i + 1,a + 1,A7,vn + 1,k7,sv ++ [q],by go_num,hlt,by go_num,rfl,hS11,Lib.hid (by
       have h9:=K.kp_step (nd:=x.nd) (l:=x.l) (rest:=R) i HQ.out
       rw [if_pos HY.out,if_pos HY.out] at h9
       exact ⟨by rw [h9.1,←hka.out.1],by rw [h9.2,←hka.out.2]⟩),by omega,hin5,bel hbr h11⟩)
      case measure=>(go_light;simp [intOf];omega)
     ·obtain rfl:=HN4.out hz
      have HY:=Lib.hid (show K.keepYes x.nd x.l R (K.kpAt x.nd x.l R x.r i) q=false by rw [HKY.out];rfl)
      have HC1:=HC.out
      clear hz
      have hS10:=hREQ.below hb10
      by_cases hak:a < kn
      ·obtain ⟨ad,rfl,-⟩:=hKI10.2.2 (by omega)
       have hac:¬ kc=a:=by omega
       have k8:(a:Int)≤(kn:Int):=by omega
       have k9:(kn:Int)≤(kc:Int):=by omega
       have d1:decide ((a:Int) < (kn:Int))=true:=by simp;omega
       have d2:decide (a < kn)=true:=by simp;omega
       have CH:=has55_any (some (ad.add a)) (kn - a) (kc - a) (kk.kept.drop a) i w10 (Ints.drop hKI10 rfl (k:=a) (by omega)) (by omega)
       rw [HC1,show ((4:Int) == 0)=false from rfl] at CH
       clear HC1
       go_wp2_with fail
       refine CH.mono ?_
       rintro e w11 ⟨rfl,b11⟩
       go_wp2_with fail
       have h11:=bel hb10 b11
       have hS11:=hS10.below b11
       clear CH d1 d2 hac k8 k9
       go_roundw
       case rel=>(go_light;exact ⟨i + 1,a,VA,vn,vc,sv,by go_num,hlt,rfl,rfl,hS11,Lib.hid (by
        have h9:=K.kp_step (nd:=x.nd) (l:=x.l) (rest:=R) i HQ.out
        rw [HY.out] at h9
        exact ⟨hka.out.1.trans h9.1.symm,hka.out.2.trans h9.2.symm⟩),by omega,hin,bel hbr h11⟩)
       case measure=>(go_light;simp [intOf];omega)
      ·have d1:decide ((a:Int) < (kn:Int))=false:=by simp;omega
       have d2:decide (a < kn)=false:=by simp;omega
       go_wp2_with fail
       go_roundw
       case rel=>(go_light;exact ⟨i + 1,a,VA,vn,vc,sv,by go_num,hlt,rfl,rfl,hS10,Lib.hid (by
        have h9:=K.kp_step (nd:=x.nd) (l:=x.l) (rest:=R) i HQ.out
        rw [HY.out] at h9
        exact ⟨hka.out.1.trans h9.1.symm,hka.out.2.trans h9.2.symm⟩),by omega,hin,bel hbr hb10⟩)
       case measure=>(go_light;simp [intOf];omega)
   ·obtain rfl:i=x.m:=by omega
    have hd:decide ((x.m:Int) < (x.m:Int))=false:=decide_eq_false (by omega)
    have hd2:decide (x.m < x.m)=false:=decide_eq_false (by omega)
    have hak:a=kn:=by
     rw [hka.out.1,HKN.out,HKK.out,HRN.out,K.kpAt_len]
    have d3:((a:Int) == (kn:Int))=true:=by simp [hak]
    have d4:decide ((a:Int)=(kn:Int))=true:=by simp [hak]
    have d5:decide (a=kn)=true:=by simp [hak]
    clear hak
    go_wp2_with fail
    go_ret
    exact ⟨rfl,hbw⟩
 have d1:((ln:Int) == 0)=false:=by simp [hl0]
 have d2:decide ((ln:Int)=0)=false:=by simp [hl0]
 have d3:decide (ln=0)=false:=by simp [hl0]
 clear hl0
 go_upto_region 12 with fail
 clear d1 d2 d3
 obtain ⟨w9,hw9⟩:∃ w9:World,w9=w8.alloc (.cells #[] 47):=⟨_,rfl⟩
 have b9:Below w8.heap.size w8 w9:=by rw [hw9];exact bel_alc _ _
 have hb9:=bel hb8 b9
 go_upto_region 13 with fail
 rw [←hw9]
 clear hw9
 go_wp2_with fail
 go_loopw [19,20,21] (fun v19 v20 v21 wr=>∃ (i a:Nat) (VA:Option Addr) (vn vc:Nat) (sv:List Q),v21=.int .i64 (i:Int)∧i≤x.m∧v20=.int .i64 (a:Int)∧v19=.slice VA vn vc∧Reqs wr VA vn sv∧Hid (a=(K.kpAt x.nd x.l R x.r i).kept.length∧sv=(K.kpAt x.nd x.l R x.r i).served)∧vn≤i∧(∀ p ∈ sv,p ∈ x.r)∧Below w9.heap.size w9 wr) (fun _ _ v21 _=>x.m - (intOf v21).toNat)
 case atStart=>exact ⟨0,0,_,_,_,[],rfl,Nat.zero_le _,rfl,rfl,⟨rfl,⟨rfl,fun h=>absurd h (Nat.lt_irrefl 0)⟩,fun p h=>(by cases h)⟩,Lib.hid ⟨rfl,rfl⟩,Nat.le_refl _,fun p h=>(by cases h),Below.refl _ _⟩
 case round =>
  obtain ⟨i,a,VA,vn,vc,sv,rfl,hi,rfl,rfl,hSV,hka,hvi,hin,hbr⟩:=hrel
  have hbw:=bel hb9 hbr
  by_cases hlt:i < x.m
  ·obtain ⟨adB,q,hA,hq,hW,c0,c1,c2,c3,c4,c5,c6⟩:=(hQ.below hbw).at_ hlt
   have HQ:=Lib.hid hq
   have k0:(0:Int)≤(i:Int):=by omega
   have k1:(i:Int) < (x.m:Int):=by omega
   have kd:decide ((i:Int) < (x.m:Int))=true:=decide_eq_true k1
   have kd2:decide (i < x.m)=true:=decide_eq_true hlt
   have HMK:=Lib.hid (show ∀ w',Below wr.heap.size wr w'→(fun w':World=>w'.cell? (adB.add (i * 7))=some (.int .i64 q.node)∧w'.cell? ⟨(adB.add (i * 7)).block,(adB.add (i * 7)).off + 1,none⟩=some (.int .i64 q.room)∧w'.cell? ⟨(adB.add (i * 7)).block,(adB.add (i * 7)).off + 2,none⟩=some (.int .i64 q.kilos)∧w'.cell? ⟨(adB.add (i * 7)).block,(adB.add (i * 7)).off + 3,none⟩=some (.int .i64 q.service)∧w'.cell? ⟨(adB.add (i * 7)).block,(adB.add (i * 7)).off + 4,none⟩=some (.int .i64 q.frm)∧w'.cell? ⟨(adB.add (i * 7)).block,(adB.add (i * 7)).off + 5,none⟩=some (.int .i64 q.by_)∧w'.cell? ⟨(adB.add (i * 7)).block,(adB.add (i * 7)).off + 6,none⟩=some (.slice q.A q.n q.c)) w' from fun w' h =>
    ⟨(h.cell (cell_lt c0)).trans c0,(h.cell (cell_lt c1)).trans c1,(h.cell (cell_lt c2)).trans c2,(h.cell (cell_lt c3)).trans c3,(h.cell (cell_lt c4)).trans c4,(h.cell (cell_lt c5)).trans c5,(h.cell (cell_lt c6)).trans c6⟩)
   have hREQ:=hSV
   have hRq0:Rd wr 7 VA vn (sv.flatMap Q.cells):=by have h:=hSV.2.1;rw [reqCells_flat] at h;exact h
   have HAQ:=Lib.hid hA
   rw [hA]
   clear hA
   go_upto_region 17 with fail
   clear kd kd2 hq c0 c1 c2 c3 c4 c5 c6
   have hWW:Below wr.heap.size wr wr:=Below.refl _ _
   have Fd:Below wr.heap.size wr wr.drew:=hWW.drew
   have Fz:Below wr.heap.size wr (wr.alloc (.cells #[] 47)):=bel_alc _ _
   have S0:=HMK.out _ hWW
   have S0d:=HMK.out _ Fd
   have S0z:=HMK.out _ Fz
   have S0zd:=HMK.out _ Fz.drew
   obtain ⟨i0,hi,hzz0,hzz1,hzz2⟩:=info_parts clone120_info
   have hone:∀ u ∈ sv.flatMap Q.cells,u.oneCell'=true:=flat_one Q.cells req_one _
   have hone2:∀ u ∈ q.cells,u.oneCell'=true:=req_one q
   have hm63:0 + vn≤maxLen:=by simp only [maxLen];omega
   have hm47:(0 + vn) * 72≤140737488355328:=by omega
   have hn63:vn + 1≤maxLen:=by simp only [maxLen];omega
   have hn47:(vn + 1) * 72≤140737488355328:=by omega
   have Cz:∀ g,(Value.slice (some ⟨wr.heap.size,0,none⟩) 0 0).ownBlock=some g→wr.heap.size≤g:=fun g e=>by injection e with e;rw [←e];exact Nat.le_refl _
   have Oa:(wr.alloc (.cells #[] 47)).drew.ownsRow wr.heap.size 47 7 (.slice (some ⟨wr.heap.size,0,none⟩) 0 0) 0 []:=own_lit (heap_alloc_new wr (.cells #[] 47)) (Nat.le_refl _)
   have Rq:Rd wr 7 (VA) vn (sv.flatMap Q.cells):=hRq0
   have Ra:=Rq.below Fz.drew
   have Oz:True:=trivial
   have Fx:Below wr.heap.size wr (wr.alloc (.cells #[.int .i64 q.node,.int .i64 q.room,.int .i64 q.kilos,.int .i64 q.service,.int .i64 q.frm,.int .i64 q.by_,.slice q.A q.n q.c] 47)):=bel_alc _ _
   have Fzx:Below wr.heap.size wr ((wr.alloc (.cells #[] 47)).alloc (.cells #[.int .i64 q.node,.int .i64 q.room,.int .i64 q.kilos,.int .i64 q.service,.int .i64 q.frm,.int .i64 q.by_,.slice q.A q.n q.c] 47)):=bel Fz (bel_alc _ _)
   have Fxz:Below wr.heap.size wr ((wr.alloc (.cells #[.int .i64 q.node,.int .i64 q.room,.int .i64 q.kilos,.int .i64 q.service,.int .i64 q.frm,.int .i64 q.by_,.slice q.A q.n q.c] 47)).alloc (.cells #[] 47)):=bel Fx (bel_alc _ _)
   have S0x:=HMK.out _ Fx
   have S0zx:=HMK.out _ Fzx
   have S0xz:=HMK.out _ Fxz
   have S0xd:=HMK.out _ Fx.drew
   have S0zxd:=HMK.out _ Fzx.drew
   have S0xzd:=HMK.out _ Fxz.drew
   have Ob:((wr.alloc (.cells #[] 47)).alloc (.cells #[.int .i64 q.node,.int .i64 q.room,.int .i64 q.kilos,.int .i64 q.service,.int .i64 q.frm,.int .i64 q.by_,.slice q.A q.n q.c] 47)).drew.ownsRow wr.heap.size 47 7 (.slice (some ⟨wr.heap.size,0,none⟩) 0 0) 0 []:=own_lit (blk_alloc (heap_alloc_new wr (.cells #[] 47)) (.cells #[.int .i64 q.node,.int .i64 q.room,.int .i64 q.kilos,.int .i64 q.service,.int .i64 q.frm,.int .i64 q.by_,.slice q.A q.n q.c] 47)) (Nat.le_refl _)
   have Oc:((wr.alloc (.cells #[.int .i64 q.node,.int .i64 q.room,.int .i64 q.kilos,.int .i64 q.service,.int .i64 q.frm,.int .i64 q.by_,.slice q.A q.n q.c] 47)).alloc (.cells #[] 47)).drew.ownsRow wr.heap.size 47 7 (.slice (some ⟨wr.heap.size + 1,0,none⟩) 0 0) 0 []:=own_lit (heap_alloc_at (wr.alloc (.cells #[.int .i64 q.node,.int .i64 q.room,.int .i64 q.kilos,.int .i64 q.service,.int .i64 q.frm,.int .i64 q.by_,.slice q.A q.n q.c] 47)) (.cells #[] 47) _ (World.size_alloc _ _).symm) (Nat.le_succ _)
   have Xb:((wr.alloc (.cells #[] 47)).alloc (.cells #[.int .i64 q.node,.int .i64 q.room,.int .i64 q.kilos,.int .i64 q.service,.int .i64 q.frm,.int .i64 q.by_,.slice q.A q.n q.c] 47)).drew.heap[wr.heap.size + 1]? = some (.cells #[.int .i64 q.node,.int .i64 q.room,.int .i64 q.kilos,.int .i64 q.service,.int .i64 q.frm,.int .i64 q.by_,.slice q.A q.n q.c] 47 (0,0)):=heap_alloc_at (wr.alloc (.cells #[] 47)) (.cells #[.int .i64 q.node,.int .i64 q.room,.int .i64 q.kilos,.int .i64 q.service,.int .i64 q.frm,.int .i64 q.by_,.slice q.A q.n q.c] 47) _ (World.size_alloc _ _).symm
   have Xc:((wr.alloc (.cells #[.int .i64 q.node,.int .i64 q.room,.int .i64 q.kilos,.int .i64 q.service,.int .i64 q.frm,.int .i64 q.by_,.slice q.A q.n q.c] 47)).alloc (.cells #[] 47)).drew.heap[wr.heap.size]? = some (.cells #[.int .i64 q.node,.int .i64 q.room,.int .i64 q.kilos,.int .i64 q.service,.int .i64 q.frm,.int .i64 q.by_,.slice q.A q.n q.c] 47 (0,0)):=blk_alloc (heap_alloc_new wr (.cells #[.int .i64 q.node,.int .i64 q.room,.int .i64 q.kilos,.int .i64 q.service,.int .i64 q.frm,.int .i64 q.by_,.slice q.A q.n q.c] 47)) (.cells #[] 47)
   have Rb:=Rq.below Fzx.drew
   have Rc:=Rq.below Fxz.drew
   have hRX:∀ (W:World) (gg:Nat),W.heap[gg]? = some (.cells #[.int .i64 q.node,.int .i64 q.room,.int .i64 q.kilos,.int .i64 q.service,.int .i64 q.frm,.int .i64 q.by_,.slice q.A q.n q.c] 47 (0,0))→Rd W 7 (some ⟨gg,0,none⟩) 1 (q.cells):=fun W gg h=>Rd.of_block h 7 1 rfl
   have HRX:=Lib.hid hRX
   have Cxz:∀ g,(Value.slice (some ⟨wr.heap.size + 1,0,none⟩) 0 0).ownBlock=some g→wr.heap.size≤g:=fun g e=>by injection e with e;rw [←e];exact Nat.le_succ _
   have Nb:some (wr.heap.size + 1) ≠ (Value.slice (some ⟨wr.heap.size,0,none⟩) 0 0).ownBlock:=fun e=>by injection e with e;dsimp only at e;omega
   have Nc:some wr.heap.size ≠ (Value.slice (some ⟨wr.heap.size + 1,0,none⟩) 0 0).ownBlock:=fun e=>by injection e with e;dsimp only at e;omega
   clear hRX
   go_cut [22] from 100 to 108 (fun v22 wc=>∃ A7 k7,v22=.slice A7 (vn + 1) k7∧Rd wc 7 A7 (vn + 1) (sv.flatMap Q.cells ++ q.cells)∧Below wr.heap.size wr wc)
   case first =>
    go_region_held3 (fun w':World=>w'.cell? (adB.add (i * 7))=some (.int .i64 q.node)∧w'.cell? ⟨(adB.add (i * 7)).block,(adB.add (i * 7)).off + 1,none⟩=some (.int .i64 q.room)∧w'.cell? ⟨(adB.add (i * 7)).block,(adB.add (i * 7)).off + 2,none⟩=some (.int .i64 q.kilos)∧w'.cell? ⟨(adB.add (i * 7)).block,(adB.add (i * 7)).off + 3,none⟩=some (.int .i64 q.service)∧w'.cell? ⟨(adB.add (i * 7)).block,(adB.add (i * 7)).off + 4,none⟩=some (.int .i64 q.frm)∧w'.cell? ⟨(adB.add (i * 7)).block,(adB.add (i * 7)).off + 5,none⟩=some (.int .i64 q.by_)∧w'.cell? ⟨(adB.add (i * 7)).block,(adB.add (i * 7)).off + 6,none⟩=some (.slice q.A q.n q.c))
     (first | with_reducible exact S7s | with_reducible exact S7 | with_reducible exact S6x | with_reducible exact S6 | with_reducible exact S0zxd | with_reducible exact S0xzd | with_reducible exact S0zd | with_reducible exact S0xd | with_reducible exact S0zx | with_reducible exact S0xz | with_reducible exact S0z | with_reducible exact S0x | with_reducible exact S0d | with_reducible exact S0 | fail)
     (first
      | (have h0:=Oz;clear Oz;apply step_append_rd (hgd:=rfl) (s:=.tmp 100) (x:=.tmp 101) (t:=26) (ho:=rfl) (base:=wr.heap.size) (e:=47) (i:=i0) (z:=(.agg #[.int .i64 0,.int .i64 0,.int .i64 0,.int .i64 0,.int .i64 0,.int .i64 0,.slice none 0 0])) (size:=7) (bytes:=72) (ht:=Tryz.underlying26) (hi:=hi) (hz:=hzz0) (hsize:=hzz1) (hby:=hzz2) (hzs:=rfl) (hsz:=by decide) (v:=.slice (some ⟨_,0,none⟩) 0 0) (n:=0) (xs:=[]) (hs:=rfl) (A:=VA) (m:=vn) (c:=vc) (news:=sv.flatMap Q.cells) (hx:=rfl) (h1:=hone) (h63:=hm63) (hbytes:=hm47);(first | with_reducible exact Oa | with_reducible exact Ob | with_reducible exact Oc | fail);(first | with_reducible exact Ra | with_reducible exact Rb | with_reducible exact Rc | fail);(first | with_reducible exact Fz.drew.size | with_reducible exact Fzx.drew.size | with_reducible exact Fxz.drew.size | fail);intro v6 w6 hown6 hgr6 hat6;(first | (have b6r:Below wr.heap.size wr w6:=by with_reducible exact below_own2 Fz.drew hgr6 Cz) | (have b6r:Below wr.heap.size wr w6:=by with_reducible exact below_own2 Fzx.drew hgr6 Cz) | (have b6r:Below wr.heap.size wr w6:=by with_reducible exact below_own2 Fxz.drew hgr6 Cxz) | fail);(first | (with_reducible (have hL:=grow_blk hgr6 Xb Nb)) | (with_reducible (have hL:=grow_blk hgr6 Xc Nc)) | skip);have S6:=HMK.out _ b6r;have F6x:Below w6.heap.size w6 (w6.alloc (.cells #[.int .i64 q.node,.int .i64 q.room,.int .i64 q.kilos,.int .i64 q.service,.int .i64 q.frm,.int .i64 q.by_,.slice q.A q.n q.c] 47)):=bel_alc _ _;have S6x:=HMK.out _ (bel b6r F6x);rw [Nat.zero_add,List.nil_append] at hown6)
      | (have h9:=hown6;clear hown6;apply step_append_rd (hgd:=rfl) (s:=.tmp 102) (x:=.tmp 107) (t:=26) (ho:=rfl) (base:=wr.heap.size) (e:=47) (i:=i0) (z:=(.agg #[.int .i64 0,.int .i64 0,.int .i64 0,.int .i64 0,.int .i64 0,.int .i64 0,.slice none 0 0])) (size:=7) (bytes:=72) (ht:=Tryz.underlying26) (hi:=hi) (hz:=hzz0) (hsize:=hzz1) (hby:=hzz2) (hzs:=rfl) (hsz:=by decide) (v:=v6) (n:=vn) (xs:=sv.flatMap Q.cells) (hs:=rfl) (A:=some ⟨_,0,none⟩) (m:=1) (c:=1) (news:=q.cells) (hx:=rfl) (h1:=hone2) (h63:=hn63) (hbytes:=hn47);rotate_right 1;(first | with_reducible exact h9 | with_reducible exact own_below h9 F6x | fail);(first | with_reducible exact HRX.out _ _ hL | with_reducible exact HRX.out _ _ (heap_alloc_new w6 _) | fail);(first | with_reducible exact b6r.size | with_reducible exact Nat.le_trans b6r.size F6x.size | fail);intro v7 w7 hown7 hgr7 hat7;obtain ⟨A7,k7,rfl,hRd7,hF7⟩:=own_form hown7;(first | (have b7r:Below wr.heap.size wr w7:=by with_reducible exact below_own2 b6r hgr7 (fun g e=>(h9.lt g e).1)) | (have b7r:Below wr.heap.size wr w7:=by with_reducible exact below_own2 (bel b6r F6x) hgr7 (fun g e=>(h9.lt g e).1)) | fail);have S7:=HMK.out _ b7r)
      | fail)
    all_goals go_wp2_with fail
    all_goals go_meet
    all_goals exact ⟨A7,k7,rfl,hRd7,b7r⟩
   case rest =>
    obtain ⟨A7,k7,rfl,hRd7,b5⟩:=hcut
    have hbc:=bel (bel b9 hbr) b5
    have hB0c:=blk_below hbc hB08
    have hKIc:=hKI8.below hbc
    have hRSc:=hRS8.below hbc
    have hSc:=hSV.below b5
    have hS5:Reqs wc A7 (vn + 1) (sv ++ [q]):=⟨by rw [List.length_append,←hSV.1];rfl,by rw [reqCells_flat,List.flatMap_append,List.flatMap_singleton];exact hRd7,fun p hp=>by
     rcases List.mem_append.1 hp with hp | hp
     ·exact hSc.2.2 p hp
     ·rw [List.mem_singleton.1 hp];exact hW.below b5⟩
    have hin5:∀ p ∈ sv ++ [q],p ∈ x.r:=fun p hp=>by
     rcases List.mem_append.1 hp with hp | hp
     ·exact hin p hp
     ·rw [List.mem_singleton.1 hp];exact List.mem_of_getElem? HQ.out
    clear hRq0 HMK Fd Fz S0 S0d S0z S0zd hone hone2 hm63 hm47 hn63 hn47 Cz Oa Rq Ra Oz Fx Fzx Fxz S0x S0zx S0xz S0xd S0zxd S0xzd Ob Oc Xb Xc Rb Rc HRX Cxz Nb Nc hRd7 hSV hSc
    have hCs:CsAt wc ⟨x.nd,x.A,x.n,x.c,x.l,RA,rn,rc,RL,A7,vn + 1,k7,sv ++ [q]⟩ :=
     ⟨Lst.below hx8.net hbc,hRSc,hS5,hx8.b1,fun s hs=>by have:=hrs s hs;omega,by show rn≤_;omega,by show vn + 1≤_;omega,fun p hp=>hx8.b5 p (hin5 p hp)⟩
    obtain ⟨e5,he5⟩:∃ e5,e5=(K.plan x.nd x.l R (sv ++ [q])).2:=⟨_,rfl⟩
    have CP:=plan_er ⟨x.nd,x.A,x.n,x.c,x.l,RA,rn,rc,RL,A7,vn + 1,k7,sv ++ [q]⟩ wc hCs (er:=e5) ((congrArg Prod.snd (show K.plan (Cs.nd ⟨x.nd,x.A,x.n,x.c,x.l,RA,rn,rc,RL,A7,vn + 1,k7,sv ++ [q]⟩) (Cs.l ⟨x.nd,x.A,x.n,x.c,x.l,RA,rn,rc,RL,A7,vn + 1,k7,sv ++ [q]⟩) (Cs.ss ⟨x.nd,x.A,x.n,x.c,x.l,RA,rn,rc,RL,A7,vn + 1,k7,sv ++ [q]⟩) (Cs.r ⟨x.nd,x.A,x.n,x.c,x.l,RA,rn,rc,RL,A7,vn + 1,k7,sv ++ [q]⟩)=K.plan x.nd x.l R (sv ++ [q]) from K.plan_same rfl HRB.out)).trans he5.symm)
    have HKY:=Lib.hid (show K.keepYes x.nd x.l R (K.kpAt x.nd x.l R x.r i) q=(e5 == 0) by unfold K.keepYes;rw [he5,hka.out.2])
    have HH:=Lib.hid (K.kp_has hP0.out HQ.out)
    have hal:a≤kn:=by
     rw [HKN.out,HKK.out,hka.out.1]
     exact HH.out.1
    have HC:=Lib.hid (show (kk.kept.drop a).any (· == (i:Int))=(e5 == 0) by rw [any_contains,HKK.out,hka.out.1,HH.out.2,HKY.out])
    have HN4:=Lib.hid (show e5 ≠ 0→e5=4 from fun h=>by
     have h9:=(K.not_kept hPR.out hR4.out (by rw [←HRN.out];omega) HQ.out (by rw [HKY.out];simp [h])).1
     rw [←hka.out.2] at h9
     rw [he5]
     exact h9)
    clear he5
    have p0:=blk_cell hB0c 0 _ rfl
    have p1:=blk_cell hB0c 1 _ rfl
    go_wp2_with fail
    refine CP.mono ?_
    rintro e w10 ⟨⟨TA,tn,tc,rfl⟩,b10⟩
    clear CP p0 p1 hCs
    have hKI10:=hKIc.below b10
    have hS10:=hS5.below b10
    have hb10:=bel b5 b10
    have hB010:=blk_below b10 hB0c
    by_cases hz:e5=0
    ·have HY:=Lib.hid (show K.keepYes x.nd x.l R (K.kpAt x.nd x.l R x.r i) q=true by rw [HKY.out];simp [hz])
     have hak:a < kn:=by
      rcases Nat.lt_or_ge a kn with h | h
      ·exact h
      ·have h9:=HC.out
       rw [List.drop_eq_nil_of_le (by rw [←HKN.out];exact h),hz] at h9
       cases h9
     have HC1:=HC.out
     subst hz
     obtain ⟨ad,rfl,-⟩:=hKI10.2.2 (by omega)
     have hac:¬ kc=a:=by omega
     have k8:(a:Int)≤(kn:Int):=by omega
     have k9:(kn:Int)≤(kc:Int):=by omega
     have d1:decide ((a:Int) < (kn:Int))=true:=by simp;omega
     have d2:decide (a < kn)=true:=by simp;omega
     have CH:=has55_any (some (ad.add a)) (kn - a) (kc - a) (kk.kept.drop a) i w10 (Ints.drop hKI10 rfl (k:=a) (by omega)) (by omega)
     rw [HC1,show ((0:Int) == 0)=true from rfl] at CH
     clear HC1
     go_wp2_with fail
     refine CH.mono ?_
     rintro e w11 ⟨rfl,b11⟩
     go_wp2_with fail
     have h11:=bel hb10 b11
     have hS11:=hS10.below b11
     clear CH d1 d2 hac k8 k9
     go_roundw
     case rel=>(go_light;exact ⟨i + 1,a + 1,A7,vn + 1,k7,sv ++ [q],by go_num,hlt,by go_num,rfl,hS11,Lib.hid (by
      have h9:=K.kp_step (nd:=x.nd) (l:=x.l) (rest:=R) i HQ.out
      rw [if_pos HY.out,if_pos HY.out] at h9
      exact ⟨by rw [h9.1,←hka.out.1],by rw [h9.2,←hka.out.2]⟩),by omega,hin5,bel hbr h11⟩)
     case measure=>(go_light;simp [intOf];omega)
    ·obtain rfl:=HN4.out hz
     have HY:=Lib.hid (show K.keepYes x.nd x.l R (K.kpAt x.nd x.l R x.r i) q=false by rw [HKY.out];rfl)
     have HC1:=HC.out
     clear hz
     have hS10:=hREQ.below hb10
     by_cases hak:a < kn
     ·obtain ⟨ad,rfl,-⟩:=hKI10.2.2 (by omega)
      have hac:¬ kc=a:=by omega
      have k8:(a:Int)≤(kn:Int):=by omega
      have k9:(kn:Int)≤(kc:Int):=by omega
      have d1:decide ((a:Int) < (kn:Int))=true:=by simp;omega
      have d2:decide (a < kn)=true:=by simp;omega
      have CH:=has55_any (some (ad.add a)) (kn - a) (kc - a) (kk.kept.drop a) i w10 (Ints.drop hKI10 rfl (k:=a) (by omega)) (by omega)
      rw [HC1,show ((4:Int) == 0)=false from rfl] at CH
      clear HC1
      go_wp2_with fail
      refine CH.mono ?_
      rintro e w11 ⟨rfl,b11⟩
      go_wp2_with fail
      have h11:=bel hb10 b11
      have hS11:=hS10.below b11
      clear CH d1 d2 hac k8 k9
      go_roundw
      case rel=>(go_light;exact ⟨i + 1,a,VA,vn,vc,sv,by go_num,hlt,rfl,rfl,hS11,Lib.hid (by
       have h9:=K.kp_step (nd:=x.nd) (l:=x.l) (rest:=R) i HQ.out
       rw [HY.out] at h9
       exact ⟨hka.out.1.trans h9.1.symm,hka.out.2.trans h9.2.symm⟩),by omega,hin,bel hbr h11⟩)
      case measure=>(go_light;simp [intOf];omega)
     ·have d1:decide ((a:Int) < (kn:Int))=false:=by simp;omega
      have d2:decide (a < kn)=false:=by simp;omega
      go_wp2_with fail
      go_roundw
      case rel=>(go_light;exact ⟨i + 1,a,VA,vn,vc,sv,by go_num,hlt,rfl,rfl,hS10,Lib.hid (by
       have h9:=K.kp_step (nd:=x.nd) (l:=x.l) (rest:=R) i HQ.out
       rw [HY.out] at h9
       exact ⟨hka.out.1.trans h9.1.symm,hka.out.2.trans h9.2.symm⟩),by omega,hin,bel hbr hb10⟩)
      case measure=>(go_light;simp [intOf];omega)
  ·obtain rfl:i=x.m:=by omega
   have hd:decide ((x.m:Int) < (x.m:Int))=false:=decide_eq_false (by omega)
   have hd2:decide (x.m < x.m)=false:=decide_eq_false (by omega)
   have hak:a=kn:=by
    rw [hka.out.1,HKN.out,HKK.out,HRN.out,K.kpAt_len]
   have d3:((a:Int) == (kn:Int))=true:=by simp [hak]
   have d4:decide ((a:Int)=(kn:Int))=true:=by simp [hak]
   have d5:decide (a=kn)=true:=by simp [hak]
   clear hak
   go_wp2_with fail
   go_ret
   exact ⟨rfl,hbw⟩
end Go.Proofs.YtippdjmpkafifaaGreat
namespace Go.Proofs.YtippdjmpkafifaaGreat
open Go.ChangeShapes Go.WideShapes Go.Deep Go.RowKit
section
variable {H : Type} {enc : TypeId × Value → H} {P : Program} {w : World} {base : Nat} {spare : Nat → Bool} {held : Bool}
set_option maxRecDepth 100000 in
theorem open_slice_fields {t e:TypeId} {fs:Array Field} {fuel:Nat} {cs:List Value} {x:DataW H × List MemPlace} (ht:P.underlying t=some (.slice e)) (he:P.underlying e=some (.struct fs))
  (hone:oneCellFields P fs=true) (hC:P.cellsOf e=fs.size) (h:DataW.trod enc P w base spare held fuel t cs=some x) :
  (cs=[.slice none 0 0]∧x=(.nil,[])) ∨
  ∃ (a:Addr) (len cap m:Nat) (D:Nat→DataW H) (Pl:Nat→List MemPlace),cs=[.slice (some a) len cap]∧base≤a.block∧len≤cap∧cap≤maxLen∧m=(if spare a.block then cap else len) ∧
   x=(.slice ((List.range len).map D) ((List.range (m - len)).map fun j=>D (len + j)),MemPlace.row a (m * fs.size) ++ (List.range m).flatMap Pl) ∧
   ∀ i,i < m→∃ (ys:List (DataW H × List MemPlace)) (n:Nat),D i=.agg (ys.map (·.1))∧Pl i=ys.flatMap (·.2)∧ys.length=fs.size ∧
    ∀ (j:Nat) (f:Field),fs[j]? = some f→∃ (v:Value) (y:DataW H × List MemPlace),w.cell? (a.add (i * fs.size + j))=some v∧ys[j]? = some y∧DataW.trod enc P w base spare held n f.type [v] = some y:=by
 rcases open_slice ht h with h0 | ⟨a,len,cap,m,n,D,Pl,hcs,hb,hl,hm,hmm,hx,hi⟩
 ·exact .inl h0
 ·refine .inr ⟨a,len,cap,m,D,Pl,hcs,hb,hl,hm,hmm,by rw [hC] at hx;exact hx,fun i him=>?_⟩
  obtain ⟨cs',hc,ht'⟩:=hi i him
  rw [hC] at hc
  obtain ⟨ys,n',hn',hy,hlen,hyl,hf⟩:=DataW.trod_struct he ht'
  obtain ⟨_,hcl,hat⟩:=World.cells?_some hc
  simp only [Prod.mk.injEq] at hy
  refine ⟨ys,n',hy.1,hy.2,hyl,fun j f hj=>?_⟩
  obtain ⟨ho,hk⟩:=hone_of hone j f hj
  have hjl:j < fs.size:=(Array.getElem?_eq_some_iff.1 hj).1
  have hcell:=hat j hjl
  have hv:cs'[j]? = some (cs'[j]'(by omega)):=List.getElem?_eq_getElem (by omega)
  have h1:=hf j f hj
  rw [ho,hk] at h1
  have hone':(cs'.drop j).take 1=[cs'[j]'(by omega)]:=by
   rw [List.drop_eq_getElem_cons (by omega)]
   rfl
  rw [hone'] at h1
  have hys:ys[j]? = some (ys[j]'(by omega)):=List.getElem?_eq_getElem (by omega)
  refine ⟨_,_,?_,hys,h1.trans hys⟩
  rw [←Go.Deep.add_add,hcell,hv]
end
section
variable {H : Type} {enc : TypeId × Value → H} {P : Program}
theorem post_of_below {f:Func} {s:ChangeSpec} {apart fresh handsOn again:Bool} {W W':World} {args:Array Value} {v:Value} {ds gs:List (DataW H)} {before pa pv:List MemPlace}
  (hW:DataW.Whole enc P f.params.toList s.vars apart W args.toList ds gs before)
  (hres:∀ (b:Nat) (sp:Nat→Bool) (hd:Bool),DataW.TrodAll enc P W' b sp hd f.resultTypes.toList (v.resultList f.resultTypes.size) (s.fn H (ds ++ gs)).results [])
  (hargs:∀ sp:Nat→Bool,(∀ p ∈ before,sp p.block=true)→DataW.TrodAll enc P W' 0 sp true f.params.toList args.toList (s.fn H (ds ++ gs)).args pa)
  (hvars:∀ sp:Nat→Bool,(∀ p ∈ before,sp p.block=true)→DataW.TrodVars enc P W' sp s.vars (s.fn H (ds ++ gs)).vars pv)
  (hps:before=pa ++ pv) (hb:Below W.heap.size W W')
  (hok:∀ (j:Nat) (t:TypeId) (r:Value),f.resultTypes[j]? = some t→(v.resultList f.resultTypes.size)[j]? = some r→Value.okWide P W' .any 0 t r) :
  s.post enc P f apart fresh handsOn again W args v W':=by
 have hlt:∀ p ∈ before,p.block < W.heap.size:=fun p hp=>hW.lt p hp
 have hold:∀ p ∈ before,(fun b=>decide (b < W.heap.size)) p.block=true:=fun p hp=>by simpa using hlt p hp
 refine ⟨ds,gs,before,[],pa,pv,hW,hres _ _ _,hargs _ hold,hvars _ hold,World.keptBut_mono (fun p hp=>⟨hp,?_⟩) (hb.frame (· ∈ before)),fun _=>?_⟩
 ·rw [hps,List.mem_append] at hp
  exact Or.inr hp
 ·obtain ⟨_,_,_,_,_,hz,hn⟩:=hW
  refine ⟨hok,_,_,([] ++ pa) ++ pv,⟨[] ++ pa,pv,trodAll_append (hargs _ (fun _ _=>rfl)) (hres _ _ _),hvars _ (fun _ _=>rfl),rfl,?_,?_⟩,?_⟩
  ·intro b off hp
   have hin:MemPlace.cell b off ∈ before:=by rw [hps];simpa using hp
   rw [hb.frozen (hlt _ hin)]
   exact hz b off hin
  ·intro ha
   have:=hn ha
   rw [hps] at this
   simpa using this
  ·intro p hp _
   rw [hps]
   simpa using hp
end
theorem list_of {α:Type} {n:Nat} {Q:Nat→α→Prop} (h:∀ i,i < n→∃ x,Q i x):∃ l:List α,l.length=n∧∀ i x,l[i]? = some x→Q i x:=by
 induction n with
 | zero=>exact ⟨[],rfl,fun i x hx=>by simp at hx⟩
 | succ n ih =>
  obtain ⟨l,hl,hq⟩:=ih (fun i hi=>h i (by omega))
  obtain ⟨x,hx⟩:=h n (by omega)
  refine ⟨l ++ [x],by simp [hl],fun i y hy=>?_⟩
  rw [List.getElem?_append] at hy
  split at hy
  ·exact hq i y hy
  ·rename_i hlt
   have e:i=n:=by
    by_cases e:i - l.length=0
    ·omega
    ·rw [List.getElem?_eq_none (by simp;omega)] at hy;cases hy
   subst e
   rw [←hl,Nat.sub_self] at hy
   simp at hy
   subst hy;exact hx
theorem winCells_cell {w:World} {ad:Addr} {l:List (Int × Int)} (h:∀ i p,l[i]? = some p→w.cell? (ad.add (i * 2))=some (.int .i64 p.1)∧w.cell? (ad.add (i * 2 + 1))=some (.int .i64 p.2)) :
  ∀ j u,(winCells l)[j]? = some u→w.cell? (ad.add j)=some u:=by
 intro j u hu
 have hj:j < (winCells l).length:=(List.getElem?_eq_some_iff.1 hu).1
 rw [winCells_len] at hj
 have hp:l[j / 2]? = some (l[j / 2]'(by omega)):=List.getElem?_eq_getElem (by omega)
 obtain ⟨g1,g2⟩:=winCells_get l _ _ hp
 obtain ⟨k1,k2⟩:=h _ _ hp
 by_cases e:j % 2=0
 ·have:j=j / 2 * 2:=by omega
  rw [this] at hu ⊢
  rw [g1] at hu
  injection hu with hu
  rw [←hu];exact k1
 ·have:j=j / 2 * 2 + 1:=by omega
  rw [this] at hu ⊢
  rw [g2] at hu
  injection hu with hu
  rw [←hu];exact k2
section
variable {H : Type} {enc : TypeId × Value → H} {P : Program}
theorem trodAll_stays (hl:laidOutB P=true) {W W':World} {sp:Nat→Bool} (hb:Below W.heap.size W W') :
  ∀ (ts:List TypeId) (vs:List Value) (ds:List (DataW H)) (ps:List MemPlace),(∀ t ∈ ts,P.readableRec t=true∧t < P.types.size)→DataW.TrodAll enc P W 0 (fun _=>true) true ts vs ds ps →
   (∀ x ∈ ps,x.block < W.heap.size)→(∀ x ∈ ps,sp x.block=true)→DataW.TrodAll enc P W' 0 sp true ts vs ds ps:=by
 intro ts
 induction ts with
 | nil=>intro vs ds ps _ h _ _;cases vs <;> cases ds <;> first | exact h | exact h.elim
 | cons t ts ih =>
  intro vs ds ps hts h hlt hsp
  match vs,ds,h with
  | v :: vs,d :: ds,⟨p,q,h1,h2,e⟩ =>
   subst e
   have ht:=hts t (List.mem_cons_self ..)
   exact ⟨p,q,WideElems.Trod_stays hl ht.1 ht.2 h1 (fun x hx=>hb.same (hlt x (List.mem_append_left _ hx))) (fun x hx=>hsp x (List.mem_append_left _ hx)),
    ih vs ds q (fun t' h'=>hts t' (List.mem_cons_of_mem _ h')) h2 (fun x hx=>hlt x (List.mem_append_right _ hx)) (fun x hx=>hsp x (List.mem_append_right _ hx)),rfl⟩
end
set_option maxRecDepth 100000 in
theorem Tryz.laid:laidOutB Tryz.prog=true:=by kernel_rfl
section
variable {H : Type} {enc : TypeId × Value → H}
set_option maxRecDepth 100000 in
theorem post_true {f:Func} {s:ChangeSpec} {W W':World} {args:Array Value} {ds:List (DataW H)} {before:List MemPlace} (hts:∀ t ∈ f.params.toList,Tryz.prog.readableRec t=true∧t < Tryz.prog.types.size)
  (hv:s.vars=[]) (hres:f.resultTypes=#[4]) (hW:DataW.Whole enc Tryz.prog f.params.toList s.vars false W args.toList ds [] before)
  (hspec:s.fn H (ds ++ [])={ results:=[.lit (.bool true)],args:=ds }) (hb:Below W.heap.size W W'):s.post enc Tryz.prog f false true false false W args (.bool true) W':=by
 have hW':=hW
 obtain ⟨p,q,hA,hV,rfl,hfz,hnd⟩:=hW
 rw [hv] at hV
 obtain ⟨_,rfl⟩:=trodVars_none hV
 have hlt:∀ x ∈ p ++ [],x.block < W.heap.size:=fun x hx=>hW'.lt x hx
 rw [List.append_nil] at hlt
 refine post_of_below (pa:=p) (pv:=[]) hW' ?_ ?_ ?_ rfl hb ?_
 ·intro b sp hd
  rw [hspec,hres]
  exact trodAll_cons_mk (shut_bool Tryz.underlying4 _) trodAll_mk0
 ·intro sp hsp
  rw [hspec]
  exact trodAll_stays Tryz.laid hb _ _ _ _ hts hA hlt (fun x hx=>hsp x (by simpa using hx))
 ·intro sp _
  rw [hspec,hv]
  rfl
 ·exact ok_one hres rfl (okWide_bool_mk Tryz.underlying4 _)
end
end Go.Proofs.YtippdjmpkafifaaGreat
namespace Go.Proofs.YtippdjmpkafifaaGreat
open Go.ChangeShapes Go.WideShapes Go.Deep Go.RowKit
section
variable {H : Type} {enc : TypeId × Value → H} {W : World} {base b0 : Nat} {spare : Nat → Bool} {held : Bool} {r : Reach}
set_option maxRecDepth 100000 in
theorem wins_of_trod {fuel:Nat} {v:Value} {x:DataW H × List MemPlace} (hf:DataW.trod enc Tryz.prog W b0 spare held fuel 45 [v] = some x):∃ A n c l,v=.slice A n c∧Wins W A n l:=by
 rcases open_slice_fields Tryz.underlying45 Tryz.underlying158 (by kernel_rfl) (by kernel_rfl) hf with ⟨hcs,_⟩ | ⟨a,len,cap,m,D,Pl,hcs,_,hlc,_,hm,_,hcell⟩
 ·simp at hcs
  subst hcs
  exact ⟨none,0,0,[],rfl,rfl,rfl,fun h0=>absurd h0 (by omega)⟩
 ·simp at hcs
  subst hcs
  have hlm:len≤m:=by rw [hm];split <;> omega
  have key:∀ i,i < len→∃ p:Int × Int,W.cell? (a.add (i * 2))=some (.int .i64 p.1)∧W.cell? (a.add (i * 2 + 1))=some (.int .i64 p.2):=by
   intro i hi
   obtain ⟨ys,n,_,_,_,hfld⟩:=hcell i (by omega)
   obtain ⟨v0,y0,c0,_,t0⟩:=hfld 0 _ rfl
   obtain ⟨v1,y1,c1,_,t1⟩:=hfld 1 _ rfl
   obtain ⟨n0,e0,_⟩:=DataW.trod_int Tryz.underlying3 t0
   obtain ⟨n1,e1,_⟩:=DataW.trod_int Tryz.underlying3 t1
   simp at e0 e1
   subst e0 e1
   exact ⟨(n0,n1),c0,c1⟩
  obtain ⟨l,hl,hq⟩:=list_of key
  exact ⟨_,_,_,l,rfl,hl.symm,by rw [winCells_len,hl],fun _=>⟨a,rfl,winCells_cell hq⟩⟩
theorem reqCells_cell {w:World} {ad:Addr} {l:List Q} (h:∀ i q,l[i]? = some q→∀ j u,q.cells[j]? = some u→w.cell? (ad.add (i * 7 + j))=some u) :
  ∀ j u,(reqCells l)[j]? = some u→w.cell? (ad.add j)=some u:=by
 intro j u hu
 have hj:j < (reqCells l).length:=(List.getElem?_eq_some_iff.1 hu).1
 rw [reqCells_len] at hj
 have hp:l[j / 7]? = some (l[j / 7]'(by omega)):=List.getElem?_eq_getElem (by omega)
 have hjj:j=j / 7 * 7 + j % 7:=by omega
 have g:=reqCells_get l _ _ hp (j % 7) (by omega)
 rw [←hjj,hu] at g
 have:=h _ _ hp (j % 7) u g.symm
 rwa [←hjj] at this
set_option maxRecDepth 100000 in
theorem reqs_of_trod {fuel:Nat} {v:Value} {x:DataW H × List MemPlace} (hf:DataW.trod enc Tryz.prog W b0 spare held fuel 26 [v] = some x):∃ A n c l,v=.slice A n c∧Reqs W A n l:=by
 rcases open_slice_fields Tryz.underlying26 Tryz.underlying47 (by kernel_rfl) (by kernel_rfl) hf with ⟨hcs,_⟩ | ⟨a,len,cap,m,D,Pl,hcs,_,hlc,_,hm,_,hcell⟩
 ·simp at hcs
  subst hcs
  exact ⟨none,0,0,[],rfl,rfl,⟨rfl,fun h0=>absurd h0 (by omega)⟩,fun q hq=>by simp at hq⟩
 ·simp at hcs
  subst hcs
  have hlm:len≤m:=by rw [hm];split <;> omega
  have key:∀ i,i < len→∃ q:Q,Wins W q.A q.n q.l∧∀ j u,q.cells[j]? = some u→W.cell? (a.add (i * 7 + j))=some u:=by
   intro i hi
   obtain ⟨ys,n,_,_,_,hfld⟩:=hcell i (by omega)
   obtain ⟨v0,y0,c0,_,t0⟩:=hfld 0 _ rfl
   obtain ⟨v1,y1,c1,_,t1⟩:=hfld 1 _ rfl
   obtain ⟨v2,y2,c2,_,t2⟩:=hfld 2 _ rfl
   obtain ⟨v3,y3,c3,_,t3⟩:=hfld 3 _ rfl
   obtain ⟨v4,y4,c4,_,t4⟩:=hfld 4 _ rfl
   obtain ⟨v5,y5,c5,_,t5⟩:=hfld 5 _ rfl
   obtain ⟨v6,y6,c6,_,t6⟩:=hfld 6 _ rfl
   obtain ⟨n0,e0,_⟩:=DataW.trod_int Tryz.underlying3 t0
   obtain ⟨n1,e1,_⟩:=DataW.trod_int Tryz.underlying3 t1
   obtain ⟨n2,e2,_⟩:=DataW.trod_int Tryz.underlying3 t2
   obtain ⟨n3,e3,_⟩:=DataW.trod_int Tryz.underlying3 t3
   obtain ⟨n4,e4,_⟩:=DataW.trod_int Tryz.underlying3 t4
   obtain ⟨n5,e5,_⟩:=DataW.trod_int Tryz.underlying3 t5
   obtain ⟨A,nn,cc,l,rfl,hw⟩:=wins_of_trod t6
   simp at e0 e1 e2 e3 e4 e5
   subst e0 e1 e2 e3 e4 e5
   refine ⟨⟨n0,n1,n2,n3,n4,n5,A,nn,cc,l⟩,hw,?_⟩
   intro j u hu
   rcases j with _ | _ | _ | _ | _ | _ | _ | j <;> simp [Q.cells] at hu <;> subst hu <;> assumption
  obtain ⟨l,hl,hq⟩:=list_of key
  refine ⟨_,_,_,l,rfl,hl.symm,⟨by rw [reqCells_len,hl],fun _=>⟨a,rfl,reqCells_cell fun i q hi=>(hq i q hi).2⟩⟩,?_⟩
  intro q hq'
  obtain ⟨i,hi⟩:=List.mem_iff_getElem?.1 hq'
  exact (hq i q hi).1
set_option maxRecDepth 100000 in
theorem open_reqs {v:Value} {d:DataW H} {ps:List MemPlace} (hval:Value.okWide Tryz.prog W r base 26 v) (h:DataW.Trod enc Tryz.prog W b0 spare held 26 v d ps):∃ A n c l,v=.slice A n c∧Reqs W A n l:=by
 obtain ⟨a0,len,cap,rfl⟩:=okWide_slice Tryz.underlying26 hval
 obtain ⟨fuel,hf⟩:=h
 exact reqs_of_trod hf
end
end Go.Proofs.YtippdjmpkafifaaGreat
namespace Go.Proofs.YtippdjmpkafifaaGreat
open Go.ChangeShapes Go.WideShapes Go.Deep Go.RowKit
section
variable {H : Type} {enc : TypeId × Value → H} {W : World} {base b0 : Nat} {spare : Nat → Bool} {held : Bool} {r : Reach}
set_option maxRecDepth 100000 in
theorem cints_of_trod {fuel:Nat} {v:Value} {x:DataW H × List MemPlace} (hf:DataW.trod enc Tryz.prog W b0 spare held fuel 48 [v] = some x):∃ A n c l,v=.slice A n c∧Ints W A n l∧n≤c:=by
 rcases open_slice Tryz.underlying48 hf with ⟨hcs,_⟩ | ⟨a,len,cap,m,n,D,Pl,hcs,_,hlc,_,hm,_,hcell⟩
 ·simp at hcs
  subst hcs
  exact ⟨none,0,0,[],rfl,⟨rfl,rfl,fun h0=>absurd h0 (by omega)⟩,Nat.le_refl _⟩
 ·simp at hcs
  subst hcs
  have hC:Tryz.prog.cellsOf 3=1:=by kernel_rfl
  have hlm:len≤m:=by rw [hm];split <;> omega
  have key:∀ i,i < len→∃ p:Int,W.cell? (a.add i)=some (.int .i64 p):=by
   intro i hi
   obtain ⟨cs',hc,ht'⟩:=hcell i (by omega)
   rw [hC,Nat.mul_one] at hc
   obtain ⟨_,_,hat⟩:=World.cells?_some hc
   obtain ⟨n0,e0,_⟩:=DataW.trod_int Tryz.underlying3 ht'
   subst e0
   have h0:=hat 0 (by omega)
   rw [Go.Deep.add_add,Nat.add_zero] at h0
   exact ⟨n0,h0⟩
  obtain ⟨l,hl,hq⟩:=list_of key
  refine ⟨_,_,_,l,rfl,⟨hl.symm,by simp [intCells,hl],fun _=>⟨a,rfl,?_⟩⟩,hlc⟩
  intro j u hu
  rw [intCells,List.getElem?_map] at hu
  obtain ⟨y,hy,rfl⟩:=Option.map_eq_some_iff.1 hu
  exact hq j y hy
theorem roads_cell {w:World} {ad:Addr} {l:List Ro} (h:∀ i q,l[i]? = some q→∀ j u,(roadCells q)[j]? = some u→w.cell? (ad.add (i * 4 + j))=some u) :
  ∀ j u,(l.flatMap roadCells)[j]? = some u→w.cell? (ad.add j)=some u:=by
 intro j u hu
 have hj:j < (l.flatMap roadCells).length:=(List.getElem?_eq_some_iff.1 hu).1
 rw [flat_len roadCells 4 (fun _=>rfl)] at hj
 have hp:l[j / 4]? = some (l[j / 4]'(by omega)):=List.getElem?_eq_getElem (by omega)
 have hjj:j=j / 4 * 4 + j % 4:=by omega
 have g:=flat_get roadCells 4 (fun _=>rfl) l _ _ hp (j % 4) (by omega)
 rw [←hjj,hu] at g
 have:=h _ _ hp (j % 4) u g.symm
 rwa [←hjj] at this
set_option maxRecDepth 100000 in
theorem roads_of_trod {fuel:Nat} {v:Value} {x:DataW H × List MemPlace} (hf:DataW.trod enc Tryz.prog W b0 spare held fuel 22 [v] = some x):∃ A n c l,v=.slice A n c∧Roads W A n l:=by
 rcases open_slice_fields Tryz.underlying22 Tryz.underlying134 (by kernel_rfl) (by kernel_rfl) hf with ⟨hcs,_⟩ | ⟨a,len,cap,m,D,Pl,hcs,_,hlc,_,hm,_,hcell⟩
 ·simp at hcs
  subst hcs
  exact ⟨none,0,0,[],rfl,rfl,rfl,fun h0=>absurd h0 (by omega)⟩
 ·simp at hcs
  subst hcs
  have hlm:len≤m:=by rw [hm];split <;> omega
  have key:∀ i,i < len→∃ q:Ro,∀ j u,(roadCells q)[j]? = some u→W.cell? (a.add (i * 4 + j))=some u:=by
   intro i hi
   obtain ⟨ys,n,_,_,_,hfld⟩:=hcell i (by omega)
   obtain ⟨v0,y0,c0,_,t0⟩:=hfld 0 _ rfl
   obtain ⟨v1,y1,c1,_,t1⟩:=hfld 1 _ rfl
   obtain ⟨v2,y2,c2,_,t2⟩:=hfld 2 _ rfl
   obtain ⟨v3,y3,c3,_,t3⟩:=hfld 3 _ rfl
   obtain ⟨n0,e0,_⟩:=DataW.trod_int Tryz.underlying3 t0
   obtain ⟨n1,e1,_⟩:=DataW.trod_int Tryz.underlying3 t1
   obtain ⟨n2,e2,_⟩:=DataW.trod_int Tryz.underlying3 t2
   obtain ⟨n3,e3,_⟩:=DataW.trod_int Tryz.underlying3 t3
   simp at e0 e1 e2 e3
   subst e0 e1 e2 e3
   refine ⟨⟨n0,n1,n2,n3⟩,?_⟩
   intro j u hu
   rcases j with _ | _ | _ | _ | j <;> simp [roadCells] at hu <;> subst hu <;> assumption
  obtain ⟨l,hl,hq⟩:=list_of key
  exact ⟨_,_,_,l,rfl,hl.symm,by rw [flat_len roadCells 4 (fun _=>rfl),hl],fun _=>⟨a,rfl,roads_cell fun i q hi=>hq i q hi⟩⟩
set_option maxRecDepth 100000 in
theorem open_cints {v:Value} {d:DataW H} {ps:List MemPlace} (hval:Value.okWide Tryz.prog W r base 48 v) (h:DataW.Trod enc Tryz.prog W b0 spare held 48 v d ps):∃ A n c l,v=.slice A n c∧Ints W A n l∧n≤c:=by
 obtain ⟨a0,len,cap,rfl⟩:=okWide_slice Tryz.underlying48 hval
 obtain ⟨fuel,hf⟩:=h
 exact cints_of_trod hf
set_option maxRecDepth 100000 in
theorem open_net {v:Value} {d:DataW H} {ps:List MemPlace} (hval:Value.okWide Tryz.prog W r base 24 v) (h:DataW.Trod enc Tryz.prog W b0 spare held 24 v d ps):∃ nd A n c l,v=.agg #[.int .i64 nd,.slice A n c]∧Roads W A n l:=by
 obtain ⟨cs,rfl,hsz⟩:=okWide_struct Tryz.underlying24 hval
 obtain ⟨fuel,hf⟩:=h
 obtain ⟨ys,n',_,_,hlen,hyl,hfl⟩:=DataW.trod_struct Tryz.underlying24 hf
 rw [show Tryz.prog.cellsOf 24=2 by kernel_rfl] at hsz
 obtain ⟨v0,v1,rfl⟩:∃ v0 v1,cs=#[v0,v1]:=by
  obtain ⟨l⟩:=cs
  rcases l with _ | ⟨v0,_ | ⟨v1,_ | ⟨v2,l⟩⟩⟩ <;> simp at hsz
  exact ⟨_,_,rfl⟩
 have C3:Tryz.prog.cellsOf 3=1:=by kernel_rfl
 have C22:Tryz.prog.cellsOf 22=1:=by kernel_rfl
 have get:∀ i,i < ys.length→∃ y,ys[i]? = some y:=fun i hi=>⟨_,List.getElem?_eq_getElem hi⟩
 have h2:ys.length=2:=hyl
 have t0:=hfl 0 _ rfl
 have t1:=hfl 1 _ rfl
 obtain ⟨y0,g0⟩:=get 0 (by omega)
 obtain ⟨y1,g1⟩:=get 1 (by omega)
 rw [g0] at t0
 rw [g1] at t1
 simp [C3,C22,Value.cells] at t0 t1
 obtain ⟨n0,e0,_⟩:=DataW.trod_int Tryz.underlying3 t0
 obtain ⟨A,n,c,l,e1,hI⟩:=roads_of_trod t1
 simp at e0 e1
 subst e0 e1
 exact ⟨n0,A,n,c,l,rfl,hI⟩
end
end Go.Proofs.YtippdjmpkafifaaGreat
namespace Go.Proofs.YtippdjmpkafifaaGreat
open Go.ChangeShapes Go.WideShapes Go.Deep Go.RowKit
theorem flat_cell {α:Type} (f:α→List Value) (s:Nat) (hs:∀ x,(f x).length=s) (h0:0 < s) {w:World} {ad:Addr} {l:List α} (h:∀ (i:Nat) (q:α),l[i]? = some q→∀ (j:Nat) (u:Value),(f q)[j]? = some u→w.cell? (ad.add (i * s + j))=some u) :
  ∀ j u,(l.flatMap f)[j]? = some u→w.cell? (ad.add j)=some u:=by
 intro j u hu
 have hj:j < (l.flatMap f).length:=(List.getElem?_eq_some_iff.1 hu).1
 rw [flat_len f s hs] at hj
 have hd:j / s < l.length:=Nat.div_lt_of_lt_mul (by rw [Nat.mul_comm];exact hj)
 have hp:l[j / s]? = some (l[j / s]'hd):=List.getElem?_eq_getElem hd
 have hm:j % s < s:=Nat.mod_lt _ h0
 have hjj:j=j / s * s + j % s:=by rw [Nat.mul_comm];exact (Nat.div_add_mod j s).symm
 have g:=flat_get f s hs l _ _ hp (j % s) hm
 rw [←hjj,hu] at g
 have:=h _ _ hp (j % s) u g.symm
 rwa [←hjj] at this
section
variable {H : Type} {enc : TypeId × Value → H} {W : World} {base b0 : Nat} {spare : Nat → Bool} {held : Bool} {r : Reach}
set_option maxRecDepth 100000 in
theorem shifts_of_trod {fuel:Nat} {v:Value} {x:DataW H × List MemPlace} (hf:DataW.trod enc Tryz.prog W b0 spare held fuel 25 [v] = some x):∃ A n c l,v=.slice A n c∧Shifts W A n l∧n≤c:=by
 rcases open_slice_fields Tryz.underlying25 Tryz.underlying63 (by kernel_rfl) (by kernel_rfl) hf with ⟨hcs,_⟩ | ⟨a,len,cap,m,D,Pl,hcs,_,hlc,_,hm,_,hcell⟩
 ·simp at hcs
  subst hcs
  exact ⟨none,0,0,[],rfl,⟨⟨rfl,rfl,fun h0=>absurd h0 (by omega)⟩,fun q hq=>by cases hq⟩,Nat.le_refl _⟩
 ·simp at hcs
  subst hcs
  have hlm:len≤m:=by rw [hm];split <;> omega
  have key:∀ i,i < len→∃ q:S,(Ints W q.A q.n q.l)∧∀ j u,(S.cells q)[j]? = some u→W.cell? (a.add (i * 6 + j))=some u:=by
   intro i hi
   obtain ⟨ys,n,_,_,_,hfld⟩:=hcell i (by omega)
   obtain ⟨v0,y0,d0,_,t0⟩:=hfld 0 _ rfl
   obtain ⟨v1,y1,d1,_,t1⟩:=hfld 1 _ rfl
   obtain ⟨v2,y2,d2,_,t2⟩:=hfld 2 _ rfl
   obtain ⟨v3,y3,d3,_,t3⟩:=hfld 3 _ rfl
   obtain ⟨v4,y4,d4,_,t4⟩:=hfld 4 _ rfl
   obtain ⟨v5,y5,d5,_,t5⟩:=hfld 5 _ rfl
   obtain ⟨n0,e0,_⟩:=DataW.trod_int Tryz.underlying3 t0
   obtain ⟨n1,e1,_⟩:=DataW.trod_int Tryz.underlying3 t1
   obtain ⟨n2,e2,_⟩:=DataW.trod_int Tryz.underlying3 t2
   obtain ⟨n3,e3,_⟩:=DataW.trod_int Tryz.underlying3 t3
   obtain ⟨n4,e4,_⟩:=DataW.trod_int Tryz.underlying3 t4
   obtain ⟨A5,m5,c5,l5,rfl,hI5,hc5⟩:=cints_of_trod t5
   simp at e0 e1 e2 e3 e4
   subst e0 e1 e2 e3 e4
   refine ⟨⟨n0,n1,n2,n3,n4,A5,m5,c5,l5⟩,hI5,?_⟩
   intro j u hu
   rcases j with _ | _ | _ | _ | _ | _ | j <;> simp [S.cells] at hu <;> subst hu <;> assumption
  obtain ⟨l,hl,hq⟩:=list_of key
  have hall:∀ q ∈ l,Ints W q.A q.n q.l:=fun q hq'=>by
   obtain ⟨i,hi⟩:=List.mem_iff_getElem?.1 hq'
   exact (hq i q hi).1
  exact ⟨_,_,_,l,rfl,⟨⟨hl.symm,by rw [flat_len S.cells 6 (fun _=>rfl),hl],fun _=>⟨a,rfl,flat_cell S.cells 6 (fun _=>rfl) (by omega) fun i q hi=>(hq i q hi).2⟩⟩,hall⟩,hlc⟩
set_option maxRecDepth 100000 in
theorem open_shifts {v:Value} {d:DataW H} {ps:List MemPlace} (hval:Value.okWide Tryz.prog W r base 25 v) (h:DataW.Trod enc Tryz.prog W b0 spare held 25 v d ps):∃ A n c l,v=.slice A n c∧Shifts W A n l∧n≤c:=by
 obtain ⟨a0,len,cap,rfl⟩:=okWide_slice Tryz.underlying25 hval
 obtain ⟨fuel,hf⟩:=h
 exact shifts_of_trod hf
end
end Go.Proofs.YtippdjmpkafifaaGreat
