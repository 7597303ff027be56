import Derived.Test.YtippdjmpkafifaaGreatCF19
import Derived.Test.YtippdjmpkafifaaGreatCF14
import Derived.Deep.Slices
import Derived.Deep.Fields
import Derived.ChangeSame
import Derived.ProofKit
import Derived.OpenShut
import Derived.Test.YtippdjmpkafifaaGreatCF1
import Derived.Test.YtippdjmpkafifaaGreatCF4
import Derived.Test.YtippdjmpkafifaaGreatCF6
import Derived.Test.YtippdjmpkafifaaGreatCF12
namespace Go.Proofs.YtippdjmpkafifaaGreat
open Go.RowKit
set_option maxRecDepth 100000 in
set_option maxHeartbeats 16000000 in
theorem fair10_any (x:Cs) (LA:Option Addr) (ln lc:Nat) (lost:List Int) (w:World) (hN:Roads w x.A x.n x.l) (hS:Shifts w x.SA x.sn x.ss) (hQ:Reqs w x.B x.m x.r) (hL:Ints w LA ln lost) :
  Calls Tryz.prog 10 #[.agg #[.int .i64 x.nd,.slice x.A x.n x.c,.slice x.SA x.sn x.sc,.slice x.B x.m x.d],.slice LA ln lc] w fun e w'=>e=.returned (.bool true)∧Below w.heap.size w w':=by
 obtain ⟨w1,hw1⟩:∃ w1:World,w1=w.alloc (.cells #[.int .i64 x.nd,.slice x.A x.n x.c,.slice x.SA x.sn x.sc,.slice x.B x.m x.d] 44):=⟨_,rfl⟩
 obtain ⟨g,hg⟩:∃ g,g=w.heap.size:=⟨_,rfl⟩
 have b1:Below w.heap.size w w1:=by rw [hw1];exact (Below.refl _ _).alloc (Nat.le_refl _) _
 have hN1:BkBlk w1 g x:=by rw [hw1,hg];exact BkBlk.new _ _
 have HRN:=Lib.hid hQ.1
 go_enter Tryz.func10,Tryz.ntmps10
 go_upto_region 1 with fail
 rw [←hw1,←hg]
 clear hw1 hg
 go_wp2_with fail
 refine (sane42_any w1).mono ?_
 rintro e w2 ⟨rfl,b2⟩
 have hN2:=hN1.below b2
 have hb2:=bel b1 b2
 clear hN1 b1 b2
 have p0:=blk_cell hN2 0 _ rfl
 have p1:=blk_cell hN2 1 _ rfl
 have p2:=blk_cell hN2 2 _ rfl
 have p3:=blk_cell hN2 3 _ rfl
 go_wp2_with fail
 refine (rfew43_any x LA ln lc w2 (hS.below hb2) (hQ.below hb2)).mono ?_
 rintro e w3 ⟨⟨z,rfl,hz⟩,b3⟩
 have HZ:=Lib.hid hz
 have hN3:=hN2.below b3
 have hb3:=bel hb2 b3
 clear hz hN2 hb2 b3 p0 p1 p2 p3
 cases z
 ·go_wp2_with fail
  go_ret
  exact ⟨rfl,hb3⟩
 obtain ⟨hF,hl10⟩:=HZ.out rfl
 obtain ⟨hn40,hs6,hm8,hsr,-,hs4,hm4⟩:=K.few32_parts hF hQ.1
 have hx3:CsAt w3 x:=K.few32_at hF (Lst.below hN hb3) (hS.below hb3) (hQ.below hb3)
 have HSR:=Lib.hid (show ∀ s ∈ x.ss,s.n≤1000000 from fun s hs=>by have:=hsr s hs;omega)
 clear HZ hsr hF
 have p0:=blk_cell hN3 0 _ rfl
 have p1:=blk_cell hN3 1 _ rfl
 have p2:=blk_cell hN3 2 _ rfl
 have p3:=blk_cell hN3 3 _ rfl
 have CR:=rest45_any x LA ln lc lost w3 hx3 (hL.below hb3) (by omega) (by omega) HSR.out
 obtain ⟨er,her⟩:∃ er,er=K.restE x.nd x.l x.ss x.r lost:=⟨_,rfl⟩
 obtain ⟨R,hR⟩:∃ R,R=K.rest34 x.nd x.l x.ss x.r lost:=⟨_,rfl⟩
 rw [←her,←hR] at CR
 go_wp2_with fail
 refine CR.mono ?_
 rintro e w4 ⟨⟨PA,pn,pc,PL,rfl,hP,hPb⟩,b4⟩
 have hN4:=hN3.below b4
 have hb4:=bel hb3 b4
 have hx4:=hx3.below b4
 clear CR p0 p1 p2 p3 hN3 b4 hx3
 have p0:=blk_cell hN4 0 _ rfl
 have p1:=blk_cell hN4 1 _ rfl
 have p2:=blk_cell hN4 2 _ rfl
 have p3:=blk_cell hN4 3 _ rfl
 have CK:=keep47_any x LA ln lc lost w4 hx4 (hL.below hb4) (by omega) (by omega) HSR.out
 obtain ⟨kk,hkk⟩:∃ kk,kk=K.keep34 x.nd x.l x.ss x.r lost:=⟨_,rfl⟩
 rw [←hkk] at CK
 have hke:kk.2=er:=by
  rw [hkk,her]
  unfold K.keep34
  split
  ·rename_i h;exact h.symm
  ·rfl
 rw [hke] at CK
 have HER:=Lib.hid her
 have HR:=Lib.hid hR
 have HKK:=Lib.hid hkk
 clear her hR hkk hke
 go_wp2_with fail
 refine CK.mono ?_
 rintro e w5 ⟨⟨KA,kn,kc,RA,rn,rc,dd,rfl,hK,hT,hcap,hFT,hts,hRs,hFR,hrs⟩,b5⟩
 obtain ⟨dk,L,TA,tn,tc,ts,dSA,dsn,dsc,dsv⟩:=dd
 dsimp only at hT hcap hFT hts hRs hFR hrs ⊢
 have hN5:=hN4.below b5
 have hb5:=bel hb4 b5
 have hx5:=hx4.below b5
 have hP5:=hP.below b5
 clear CK p0 p1 p2 p3 hN4 hx4 hP b5
 by_cases hz:er=0
 rotate_left
 ·have hne:K.restE x.nd x.l x.ss x.r lost ≠ 0:=by rw [←HER.out];exact hz
  have hk0:kk.1=K.Kp.zero:=by rw [HKK.out];unfold K.keep34;rw [if_neg hne]
  rw [hk0] at hK hts hrs
  obtain rfl:kn=0:=hK.1
  obtain rfl:tn=0:=by
   have h1:=hT.1.1
   have h2:=congrArg List.length hts
   rw [List.length_map] at h2
   exact h1.trans h2
  obtain rfl:rn=0:=by
   have h1:=hRs.1.1
   have h2:=congrArg List.length hrs
   rw [List.length_map] at h2
   exact h1.trans h2
  have hd:(er != 0)=true:=by simp [bne,hz]
  have hd2:(er == er)=true:=by simp
  have CC:=check52_any x LA ln lc lost none 0 0 [] none 0 0 [] none 0 0 [] w5 hx5 (hL.below hb5) (ints_nil _) ⟨⟨rfl,rfl,fun h=>absurd h (by decide)⟩,fun y h=>(by cases h)⟩ ⟨⟨rfl,rfl,fun h=>absurd h (by decide)⟩,fun y h=>(by cases h)⟩ (by omega) (by decide) ⟨by decide,fun y h=>(by cases h)⟩ ⟨by decide,fun y h=>(by cases h)⟩ (by omega) HSR.out
  rw [K.keep_wrong hne] at CC
  have p0:=blk_cell hN5 0 _ rfl
  have p1:=blk_cell hN5 1 _ rfl
  have p2:=blk_cell hN5 2 _ rfl
  have p3:=blk_cell hN5 3 _ rfl
  clear hne hk0
  go_wp2_with fail
  refine CC.mono ?_
  rintro e w6 ⟨rfl,b6⟩
  go_wp2_with fail
  go_ret
  exact ⟨rfl,bel hb5 b6⟩
 subst hz
 have hE0:K.restE x.nd x.l x.ss x.r lost=0:=HER.out.symm
 have HP:=Lib.hid (K.restE_0 hE0).2
 have HRR:=Lib.hid (show R=K.restGo lost 0 x.ss by rw [HR.out];unfold K.rest34;rw [if_pos hE0])
 have hm6:x.m≤6:=by rw [hQ.1];exact (K.pcheck_ok HP.out).2.2.2.2
 have hs4b:x.sn≤4:=by rw [hS.1.1];exact (K.pcheck_ok HP.out).2.1
 have hm4b:x.m≤4:=hm4 hm6
 obtain ⟨hpn,hps⟩:=rest_small hx5 (by omega) HSR.out (by rw [HR.out];exact rest34_sub) hP5 hPb
 have hP0:K.pcheck x.nd x.l R [] = 0:=K.pcheck_less HP.out (by rw [HRR.out];exact K.restGo_sub _ _) (List.nil_sublist _)
 have HKV:=Lib.hid (show kk.1=K.kpAt x.nd x.l R x.r x.r.length by rw [HKK.out];unfold K.keep34;rw [if_pos hE0,HRR.out,K.kpAt_len])
 have hOk:=K.kpAt_ok hP0 (r:=x.r) (Nat.le_refl _)
 rw [←HKV.out] at hOk
 have HOK:=Lib.hid hOk
 have hkn:kn≤x.m:=by have h1:=hOk.len;have h2:=hK.1;have h3:=HRN.out;omega
 have hsum:IntKind.i64.wrap ((kn:Int) + (rn:Int))=(x.m:Int):=by
  have h1:=hOk.len
  have h2:=hK.1
  have h3:=HRN.out
  have h4:=hRs.1.1
  have h5:=congrArg List.length hrs
  rw [List.length_map] at h5
  rw [IntWalk.i64_in _ (by omega)]
  omega
 have hinr:∀ j ∈ kk.1.kept,0≤j∧j < (x.m:Int):=fun j hj=>by have:=hOk.lt j hj;have:=HRN.out;omega
 have hch:K.chosen34 x.r kk.1.kept (-1)=kk.1.served:=by unfold K.chosen34;rw [if_pos (by decide),List.append_nil,hOk.served]
 have HSL:=Lib.hid (show kk.1.served.length=kn by rw [hOk.served,List.length_map,hK.1])
 have HIN:=Lib.hid (show ∀ p ∈ kk.1.served,p ∈ x.r from fun p hp=>by
  rw [hOk.served] at hp
  obtain ⟨j,hj,rfl⟩:=List.mem_map.1 hp
  obtain ⟨g1,g2⟩:=hinr j hj
  obtain ⟨n,rfl⟩:∃ n:Nat,j=(n:Int):=⟨j.toNat,by omega⟩
  have hn:n < x.r.length:=by have:=HRN.out;omega
  rw [K.req_at (List.getElem?_eq_getElem hn)]
  exact List.getElem_mem hn)
 have hbd:Below w5.heap.size w5 w5.drew:=(Below.refl _ _).drew
 have C54:=chosen54_any x KA kn kc kk.1.kept (-1) w5.drew (hx5.below hbd).reqs (hK.below hbd) (by omega) hinr (.inl rfl)
 rw [hch] at C54
 have C54:Calls Tryz.prog 54 #[.agg #[.int .i64 x.nd,.slice x.A x.n x.c,.slice x.SA x.sn x.sc,.slice x.B x.m x.d],.slice KA kn kc,.int .i64 (-1)] w5.drew fun e w'=>(∃ SB cB,e=.returned (.slice SB kk.1.served.length cB)∧CsAt w' ⟨x.nd,x.A,x.n,x.c,x.l,PA,pn,pc,PL,SB,kk.1.served.length,cB,kk.1.served⟩)∧Below w5.drew.heap.size w5.drew w':=by
  refine C54.mono ?_
  rintro e w6 ⟨⟨v6,rfl,hv6⟩,b6⟩
  obtain ⟨SB,cB,rfl,hCs⟩:=cs_snoc (rc:=pc) ((hx5.below hbd).below b6) ((hP5.below hbd).below b6) hpn hps rfl hv6 HIN.out (by rw [HSL.out];omega)
  exact ⟨⟨SB,cB,rfl,hCs⟩,b6⟩
 have C26:∀ (w':World) (A:Option Addr) (k:Nat),Below w5.heap.size w5 w'→CsAt w' ⟨x.nd,x.A,x.n,x.c,x.l,PA,pn,pc,PL,A,kk.1.served.length,k,kk.1.served⟩→Calls Tryz.prog 26 #[.agg #[.int .i64 x.nd,.slice x.A x.n x.c],.slice PA pn pc,.slice A kk.1.served.length k,.slice TA tn tc] w' fun e w''=>e=.returned (.int .i64 0)∧Below w'.heap.size w' w'':=fun w' A k hb hcs=>by
  refine (checks32_any ⟨x.nd,x.A,x.n,x.c,x.l,PA,pn,pc,PL,A,kk.1.served.length,k,kk.1.served⟩ TA tn tc ts w' hcs (hT.below hb) hFT).mono ?_
  rintro e w'' ⟨rfl,hb2⟩
  refine ⟨?_,hb2⟩
  have h1:K.checks x.nd x.l PL kk.1.served (ts.map TV.pr)=0:=by rw [K.checks_same (r':=kk.1.served) rfl hPb,hts];exact HOK.out.tours
  exact congrArg (fun z=>Ending.returned (.int .i64 z)) h1
 have C52:∀ w':World,Below w5.heap.size w5 w'→Calls Tryz.prog 52 #[.agg #[.int .i64 x.nd,.slice x.A x.n x.c,.slice x.SA x.sn x.sc,.slice x.B x.m x.d],.slice LA ln lc,.slice KA kn kc,.slice TA tn tc,.slice RA rn rc] w' fun e w''=>e=.returned (.bool true)∧Below w'.heap.size w' w'':=fun w' hb=>by
  refine (check52_any x LA ln lc lost KA kn kc kk.1.kept TA tn tc ts RA rn rc L w' (hx5.below hb) (hL.below (bel hb5 hb)) (hK.below hb) (hT.below hb) (hRs.below hb) (by omega) (by omega) hFT hFR (by omega) HSR.out).mono ?_
  rintro e w'' ⟨rfl,hb2⟩
  refine ⟨?_,hb2⟩
  have h1:K.kcheck x.nd x.l x.ss x.r lost kk.1.kept (ts.map TV.pr) (L.map RV.pr)=true:=by
   rw [hts,hrs,HKK.out]
   exact K.keep_check (by rw [←hS.1.1];exact hs4b) (by rw [←HRN.out];exact hm4b) hE0
  exact congrArg (fun z=>Ending.returned (.bool z)) h1
 have p0:=blk_cell hN5 0 _ rfl
 have p1:=blk_cell hN5 1 _ rfl
 have p2:=blk_cell hN5 2 _ rfl
 have p3:=blk_cell hN5 3 _ rfl
 have HMK:=Lib.hid (show ∀ w',Below w5.heap.size w5 w'→(fun w':World=>w'.cell? ⟨g,0,none⟩=some (.int .i64 x.nd)∧w'.cell? ⟨g,1,none⟩=some (.slice x.A x.n x.c)∧w'.cell? ⟨g,2,none⟩=some (.slice x.SA x.sn x.sc)∧w'.cell? ⟨g,3,none⟩=some (.slice x.B x.m x.d)) w' from fun w' h=>⟨(h.cell (cell_lt p0)).trans p0,(h.cell (cell_lt p1)).trans p1,(h.cell (cell_lt p2)).trans p2,(h.cell (cell_lt p3)).trans p3⟩)
 have S0:=HMK.out _ (Below.refl _ _)
 have S0d:=HMK.out _ hbd
 have HC52:=Lib.hid C52
 have HC26:=Lib.hid C26
 clear p0 p1 p2 p3 hch hOk hP0 hE0 C52 C26
 go_wp2_with fail
 go_region_held3 (fun w':World=>w'.cell? ⟨g,0,none⟩=some (.int .i64 x.nd)∧w'.cell? ⟨g,1,none⟩=some (.slice x.A x.n x.c)∧w'.cell? ⟨g,2,none⟩=some (.slice x.SA x.sn x.sc)∧w'.cell? ⟨g,3,none⟩=some (.slice x.B x.m x.d))
  (first | with_reducible exact S8 | with_reducible exact S7 | with_reducible exact S6 | with_reducible exact S0d | with_reducible exact S0 | fail)
  (first
   | (go_at_call 54;refine C54.mono ?_;rintro e w6 ⟨⟨SB,cB,rfl,hCs⟩,b6⟩;have b6r:=bel hbd b6;have S6:=HMK.out _ b6r)
   | (go_at_call 26;refine (HC26.out _ SB cB b6r hCs).mono ?_;rintro e w7 ⟨rfl,b7⟩;have b7r:=bel b6r b7;have S7:=HMK.out _ b7r)
   | (go_at_call 52;refine (HC52.out _ b7r).mono ?_;rintro e w8 ⟨rfl,b8⟩;have b8r:=bel b7r b8;have S8:=HMK.out _ b8r)
   | fail)
 obtain ⟨p0,p1,p2,p3⟩:=S8
 have hb8:=bel hb5 b8r
 have HB5:=Lib.hid b8r
 have HS5:=Lib.hid hPb
 clear p0 p1 p2 p3 S0 S0d S6 S7 C54 hCs b6 b7 b8 b6r b7r b8r hbd hsum hPb
 go_wp2_with fail
 go_loopw [12,13,14] (fun v12 v13 v14 wr=>∃ (i n:Nat) (bl:List Int),v14=.int .i64 i∧v13=.int .i64 n∧i≤x.m∧n≤i∧bl.length≤i∧wr.ownsRow w8.heap.size 3 1 v12 bl.length (intCells bl)∧Hid (bl=(K.kpAt x.nd x.l R x.r i).kept∧n=(K.kpAt x.nd x.l R x.r i).reasons.length)∧Below w8.heap.size w8 wr) (fun _ _ v14 _=>x.m - (intOf v14).toNat)
 case atStart=>exact ⟨0,0,[],rfl,rfl,Nat.zero_le _,Nat.le_refl _,Nat.le_refl _,World.ownsRow_nil _ _ _ _,⟨rfl,rfl⟩,Below.refl _ _⟩
 case round =>
  obtain ⟨i,n,bl,rfl,rfl,hi,hni,hbi,hown,hI,hbr⟩:=hrel
  have b5r:=bel HB5.out hbr
  obtain ⟨p0,p1,p2,p3⟩:=HMK.out _ b5r
  by_cases hlt:i < x.m
  rotate_left
  ·have hd:decide ((i:Int) < (x.m:Int))=false:=decide_eq_false (by omega)
   have hd2:decide (i < x.m)=false:=decide_eq_false hlt
   have HBK:=Lib.hid (show bl=kk.1.kept by
    have him:i=x.r.length:=by have:=HRN.out;omega
    rw [hI.out.1,HKV.out,him])
   obtain ⟨BA,bc,rfl,hRB,-⟩:=own_form hown
   have hBI:Ints wr BA bl.length bl:=⟨rfl,hRB⟩
   have CS:Calls Tryz.prog 50 #[.slice BA bl.length bc,.slice KA kn kc] wr fun e w'=>e=.returned (.bool true)∧Below wr.heap.size wr w':=by
    have h9:=sameInts28_any BA KA bl.length kn bc kc bl kk.1.kept wr hBI (hK.below b5r) (by omega) (by omega)
    rw [decide_eq_true HBK.out] at h9
    exact h9
   clear p0 p1 p2 hlt hI hown hRB
   go_wp2_with fail
   refine CS.mono ?_
   rintro e w9 ⟨rfl,b9⟩
   go_wp2_with fail
   go_ret
   exact ⟨rfl,bel hb5 (bel b5r b9)⟩
  obtain ⟨q,hq⟩:∃ q,x.r[i]? = some q:=⟨_,List.getElem?_eq_getElem (by rw [←HRN.out];exact hlt)⟩
  have HQ:=Lib.hid hq
  have hP0:K.pcheck x.nd x.l R [] = 0:=K.pcheck_less HP.out (by rw [HRR.out];exact K.restGo_sub _ _) (List.nil_sublist _)
  have HSUC:=Lib.hid (K.kpAt_succ (nd:=x.nd) (l:=x.l) (rest:=R) hq)
  obtain ⟨KI,hKI⟩:∃ KI,KI=K.kpAt x.nd x.l R x.r i:=⟨_,rfl⟩
  have hkI:=K.kpAt_ok hP0 (r:=x.r) (i:=i) (by rw [←HRN.out];exact hi)
  have hKA:=K.kept_at hP0 hq
  have hin0:=K.served_sub hP0 hq
  have hnk:=K.not_kept (nd:=x.nd) (l:=x.l) (rest:=R) (r:=x.r) (K.pcheck_less HP.out (by rw [HRR.out];exact K.restGo_sub _ _) (List.Sublist.refl _)) (by rw [HRR.out];exact Nat.le_trans (K.restGo_sub (lost:=lost) x.ss 0).length_le (by have:=hS.1.1;omega)) (by rw [←HRN.out];exact hm4b) hq
  rw [←hKI] at hkI hKA hin0 hnk HSUC hI
  rw [←K.kpAt_len,←HKV.out] at hKA
  obtain ⟨sv,hsv⟩:∃ sv,sv=KI.served:=⟨_,rfl⟩
  have hbl:=hI.out.1
  have hinb:∀ j ∈ bl,0≤j∧j < (x.m:Int):=fun j hj=>by rw [hbl] at hj;have:=hkI.lt j hj;omega
  have hch:K.chosen34 x.r bl (i:Int)=sv ++ [q]:=by unfold K.chosen34;rw [if_neg (by omega),K.req_at hq,hbl,←hkI.served,hsv]
  have hin:∀ p ∈ sv ++ [q],p ∈ x.r:=fun p hp=>by rw [hsv] at hp;exact hin0.subset hp
  have hsvi:sv.length≤i:=by rw [hsv,hkI.served,List.length_map,←hbl];exact hbi
  rw [←hsv] at hnk hKA
  obtain ⟨BA,bc,rfl,hRB,hBf⟩:=own_form hown
  have hlen:sv.length + 1=(sv ++ [q]).length:=by rw [List.length_append];rfl
  have HC54:=Lib.hid (show ∀ w',Below w8.heap.size w8 w'→Rd w' 1 BA bl.length (intCells bl)→Calls Tryz.prog 54 #[.agg #[.int .i64 x.nd,.slice x.A x.n x.c,.slice x.SA x.sn x.sc,.slice x.B x.m x.d],.slice BA bl.length bc,.int .i64 i] w' fun e w''=>(∃ SB cB,e=.returned (.slice SB (sv.length + 1) cB)∧CsAt w'' ⟨x.nd,x.A,x.n,x.c,x.l,PA,pn,pc,PL,SB,sv.length + 1,cB,sv ++ [q]⟩)∧Below w'.heap.size w' w'' from fun w' hb hrd=>by
   have b5':=bel HB5.out hb
   have h9:=chosen54_any x BA bl.length bc bl (i:Int) w' (hx5.below b5').reqs ⟨rfl,hrd⟩ (by omega) hinb (.inr ⟨i,rfl,hlt⟩)
   rw [hch,←hlen] at h9
   refine h9.mono ?_
   rintro e w6 ⟨⟨v6,rfl,hv6⟩,b6⟩
   obtain ⟨SB,cB,rfl,hCs⟩:=cs_snoc (rc:=pc) ((hx5.below b5').below b6) ((hP5.below b5').below b6) hpn hps hlen hv6 hin (by omega)
   exact ⟨⟨SB,cB,rfl,hCs⟩,b6⟩)
  obtain ⟨f,hf⟩:∃ f,f=(K.plan x.nd x.l R (sv ++ [q])).2:=⟨_,rfl⟩
  have HC20:=Lib.hid (show ∀ (w':World) (A:Option Addr) (k:Nat),CsAt w' ⟨x.nd,x.A,x.n,x.c,x.l,PA,pn,pc,PL,A,sv.length + 1,k,sv ++ [q]⟩→Calls Tryz.prog 20 #[.agg #[.int .i64 x.nd,.slice x.A x.n x.c],.slice PA pn pc,.slice A (sv.length + 1) k] w' fun e w''=>(∃ UA un uc,e=.returned (.tuple #[.slice UA un uc,.int .i64 f]))∧Below w'.heap.size w' w'' from fun w' A k hcs=>by
   refine (plan32X ⟨x.nd,x.A,x.n,x.c,x.l,PA,pn,pc,PL,A,sv.length + 1,k,sv ++ [q]⟩ w' hcs).mono ?_
   rintro e w'' ⟨⟨UA,un,uc,ul,rfl,-⟩,hb2⟩
   have h1:(K.plan x.nd x.l PL (sv ++ [q])).2=f:=by rw [hf,K.plan_same (r':=sv ++ [q]) rfl HS5.out]
   exact ⟨⟨UA,un,uc,congrArg (fun z=>Ending.returned (.tuple #[.slice UA un uc,.int .i64 z])) h1⟩,hb2⟩)
  have hy:K.keepYes x.nd x.l R KI q=(f == 0):=by unfold K.keepYes;rw [←hsv,hf]
  have HHAS:=Lib.hid (show kk.1.kept.contains (i:Int)=(f == 0) by rw [hKA.1,hy])
  have HKA:=Lib.hid (show (f == 0)=false→kk.1.reasons[KI.reasons.length]? = some ((K.refute x.nd x.l R (sv ++ [q])).1.map fun b=>((b.1:Int),b.2)) from fun h=>hKA.2 (by rw [hy];exact h))
  have HNK:=Lib.hid (show (f == 0)=false→K.refutes x.nd x.l R (sv ++ [q]) ((K.refute x.nd x.l R (sv ++ [q])).1.map fun b=>((b.1:Int),b.2))=true from fun h=>(hnk (by rw [hy];exact h)).2)
  have HY:=Lib.hid (show K.kpAt x.nd x.l R x.r (i + 1)=K.keepStep x.nd x.l R i q KI from HSUC.out)
  have HYE:=Lib.hid hy
  have hkr:=hI.out.2
  have HKR:=Lib.hid hkr
  have HBL:=Lib.hid hbl
  have hbd:Below wr.heap.size wr wr.drew:=(Below.refl _ _).drew
  have hb8d:=bel hbr hbd
  have S0:=HMK.out _ b5r
  have S0d:=HMK.out _ (bel b5r hbd)
  have hRBd:=hRB.below hbd
  have k0:(0:Int)≤(i:Int):=by omega
  have k1:(i:Int) < (x.m:Int):=by omega
  have kd:decide ((i:Int) < (x.m:Int))=true:=decide_eq_true k1
  have kd2:decide (i < x.m)=true:=decide_eq_true hlt
  clear hkI hKA hch hq hy hsv hbl hf hlen hin hin0 hinb hnk hKI hkr hI hP0 HSUC
  go_upto_region 15 with fail
  clear p0 p1 p2 p3 kd kd2
  go_cut [15,16] from 102 to 112 (fun v15 v16 wc=>v16=.int .i64 f∧Below wr.heap.size wr wc)
  case first =>
   go_region_held3 (fun w':World=>w'.cell? ⟨g,0,none⟩=some (.int .i64 x.nd)∧w'.cell? ⟨g,1,none⟩=some (.slice x.A x.n x.c)∧w'.cell? ⟨g,2,none⟩=some (.slice x.SA x.sn x.sc)∧w'.cell? ⟨g,3,none⟩=some (.slice x.B x.m x.d))
    (first | with_reducible exact S7 | with_reducible exact S6 | with_reducible exact S0d | with_reducible exact S0 | fail)
    (first
     | (go_at_call 54;refine (HC54.out _ hb8d hRBd).mono ?_;rintro e w6 ⟨⟨SB,cB,rfl,hCs⟩,b6⟩;have b6r:=bel hbd b6;have S6:=HMK.out _ (bel b5r b6r))
     | (go_at_call 20;refine (HC20.out _ SB cB hCs).mono ?_;rintro e w7 ⟨⟨UA,un,uc,rfl⟩,b7⟩;have b7r:=bel b6r b7;have S7:=HMK.out _ (bel b5r b7r))
     | fail)
   go_wp2_with fail
   go_meet
   exact ⟨rfl,b7r⟩
  case rest =>
  obtain ⟨rfl,hbc⟩:=hcut
  obtain ⟨w7,hw7⟩:∃ w7,w7=wc:=⟨_,rfl⟩
  rw [←hw7] at hbc
  rw [←hw7]
  clear hw7 S0 S0d hbd hb8d hRBd
  have b57:=bel b5r hbc
  have hb87:=bel hbr hbc
  have hown7:=own_below hown hbc
  have C55:=has55_any KA kn kc kk.1.kept i w7 (hK.below b57) (by omega)
  rw [any_contains,HHAS.out] at C55
  by_cases hf0:f=0
  ·have HF:=Lib.hid (show (f == 0)=true by simp [hf0])
   subst hf0
   have e1:((0:Int) == 0)=true:=rfl
   rw [HF.out] at C55
   have HST:=Lib.hid (show K.kpAt x.nd x.l R x.r (i + 1)=⟨KI.kept ++ [(i:Int)],KI.served ++ [q],(K.plan x.nd x.l R (KI.served ++ [q])).1.map fun t=>((t.1:Int),t.2),KI.reasons⟩ by
    rw [HY.out];unfold K.keepStep;rw [if_pos (by rw [HYE.out];rfl)])
   obtain ⟨w9,hw9⟩:∃ w9:World,w9=w7:=⟨_,rfl⟩
   go_wp2_with fail
   refine C55.mono ?_
   rintro e w8' ⟨rfl,b8'⟩
   have hb88:=bel hb87 b8'
   have hown8:=own_below hown7 b8'
   obtain ⟨wA,hwA⟩:∃ wA:World,wA=w8'.alloc (.cells #[.int .i64 i] 3):=⟨_,rfl⟩
   obtain ⟨gA,hgA⟩:∃ gA,gA=w8'.heap.size:=⟨_,rfl⟩
   have bA:Below w8'.heap.size w8' wA:=by rw [hwA];exact (Below.refl _ _).alloc (Nat.le_refl _) _
   have hLA:wA.heap[gA]? = some (.cells #[.int .i64 i] 3 (0,0)):=by rw [hwA,hgA];exact heap_alloc_new _ _
   have hownA:=own_below hown8 bA
   have hbA:=bel hb88 bA
   have hzA:w8.heap.size≤wA.heap.size:=hbA.size
   have hbl6:bl.length≤1000000:=by omega
   have hbi2:(bl ++ [(i:Int)]).length≤i + 1:=by rw [List.length_append,List.length_singleton];omega
   have HI2:=Lib.hid (show bl ++ [(i:Int)] = (K.kpAt x.nd x.l R x.r (i + 1)).kept∧n=(K.kpAt x.nd x.l R x.r (i + 1)).reasons.length by rw [HST.out];exact ⟨by rw [HBL.out],HKR.out⟩)
   clear C55 hw9 hown8 hown7
   go_wp2_with (first
    | (at_builtin;rw [←hwA,←hgA];refine app_int rfl _ _ rfl w8.heap.size _ bl.length bl rfl hownA gA i rfl hLA hbl6 hzA ?_;intro v9 wB hownB hgrB haB)
    | fail)
   have hbB:Below w8.heap.size w8 wB:=below_own2 hbA hgrB (fun g e=>(own_in hownA g e).1)
   have hownB':wB.ownsRow w8.heap.size 3 1 v9 (bl ++ [(i:Int)]).length (intCells (bl ++ [(i:Int)])):=by rw [List.length_append];exact hownB
   go_roundw
   case rel=>(go_light;exact ⟨i + 1,n,bl ++ [(i:Int)],by go_num,rfl,hlt,Nat.le_succ_of_le hni,hbi2,hownB',HI2.out,hbB⟩)
   case measure=>(go_light;simp [intOf];omega)
  ·have e1:(f == 0)=false:=by simp [hf0]
   have e2:decide (f=0)=false:=by simp [hf0]
   rw [e1] at C55
   have hrs1:=HKA.out e1
   rw [←HKR.out] at hrs1
   have hnr:n < rn:=by
    have h9:=(List.getElem?_eq_some_iff.1 hrs1).1
    have h5:=congrArg List.length hrs
    rw [List.length_map] at h5
    have h4:=hRs.1.1
    omega
   have HST:=Lib.hid (show bl=(K.kpAt x.nd x.l R x.r (i + 1)).kept∧n + 1=(K.kpAt x.nd x.l R x.r (i + 1)).reasons.length by
    rw [HY.out];unfold K.keepStep;rw [if_neg (by rw [HYE.out,e1];decide)]
    exact ⟨HBL.out,by rw [List.length_append,←HKR.out];rfl⟩)
   clear hf0
   go_wp2_with fail
   refine C55.mono ?_
   rintro e w8' ⟨rfl,b8'⟩
   have hb88:=bel hb87 b8'
   have b58:=bel b57 b8'
   have hown8:=own_below hown7 b8'
   obtain ⟨adR,y,hRA,hyr,hyB,cR⟩:=(hRs.below b58).at_ hnr
   have HBN:=Lib.hid (show y.bl.map BV.pr=(K.refute x.nd x.l R (sv ++ [q])).1.map fun b=>((b.1:Int),b.2) by
    have h9:(L.map RV.pr)[n]? = some (y.bl.map BV.pr):=by rw [List.getElem?_map,hyr];rfl
    rw [hrs,hrs1] at h9
    injection h9 with h9
    exact h9.symm)
   have hFB:=(hFR.2 y (List.mem_of_getElem? hyr)).1
   have HNK2:=Lib.hid (HNK.out e1)
   have HRA:=Lib.hid hRA
   have hbd:Below w8'.heap.size w8' w8'.drew:=(Below.refl _ _).drew
   have HMR:=Lib.hid (show ∀ w',Below w8'.heap.size w8' w'→(fun w':World=>w'.cell? ⟨g,0,none⟩=some (.int .i64 x.nd)∧w'.cell? ⟨g,1,none⟩=some (.slice x.A x.n x.c)∧w'.cell? ⟨g,2,none⟩=some (.slice x.SA x.sn x.sc)∧w'.cell? ⟨g,3,none⟩=some (.slice x.B x.m x.d)∧w'.cell? (adR.add n)=some (.slice y.A y.n y.c)) w' from fun w' h=>by
    obtain ⟨a0,a1,a2,a3⟩:=HMK.out w' (bel b58 h)
    exact ⟨a0,a1,a2,a3,(h.cell (cell_lt cR)).trans cR⟩)
   have HC28:=Lib.hid (show ∀ (w':World) (A:Option Addr) (k:Nat),Below w8'.heap.size w8' w'→CsAt w' ⟨x.nd,x.A,x.n,x.c,x.l,PA,pn,pc,PL,A,sv.length + 1,k,sv ++ [q]⟩→Calls Tryz.prog 28 #[.agg #[.int .i64 x.nd,.slice x.A x.n x.c],.slice PA pn pc,.slice A (sv.length + 1) k,.slice y.A y.n y.c] w' fun e w''=>e=.returned (.bool true)∧Below w'.heap.size w' w'' from fun w' A k hb hcs=>by
    refine (refutes32_any ⟨x.nd,x.A,x.n,x.c,x.l,PA,pn,pc,PL,A,sv.length + 1,k,sv ++ [q]⟩ y.A y.n y.c y.bl w' hcs (hyB.below hb) hFB).mono ?_
    rintro e w'' ⟨rfl,hb2⟩
    refine ⟨?_,hb2⟩
    have h1:K.refutes x.nd x.l PL (sv ++ [q]) (y.bl.map BV.pr)=true:=by rw [K.refutes_same (r':=sv ++ [q]) rfl HS5.out,HBN.out];exact HNK2.out
    exact congrArg (fun z=>Ending.returned (.bool z)) h1)
   have S0:=HMR.out _ (Below.refl _ _)
   have S0d:=HMR.out _ hbd
   have hRB8:=(own_form hown8)
   have hRBd:Rd w8'.drew 1 BA bl.length (intCells bl):=(hRB.below (bel hbc b8')).below hbd
   have hb8d:=bel hb88 hbd
   have n0:(0:Int)≤(n:Int):=by omega
   have n1:(n:Int) < (rn:Int):=by omega
   have m1:decide ((rn:Int)≤(n:Int))=false:=decide_eq_false (by omega)
   have m2:decide (rn≤n)=false:=decide_eq_false (by omega)
   have hrn6:rn≤1000000:=hFR.1
   have m3:IntKind.i64.wrap ((rn:Int) - 1)=(rn:Int) - 1:=IntWalk.i64_in _ (by omega)
   have m10:((rn:Int) - 1 < (n:Int))=False:=eq_false (by omega)
   have m11:((rn:Int) < (n:Int) + 1)=False:=eq_false (by omega)
   have m12:((rn:Int)≤(n:Int))=False:=eq_false (by omega)
   have m13:(rn≤n)=False:=eq_false (by omega)
   have m14:(rn < n + 1)=False:=eq_false (by omega)
   have hni2:n + 1≤i + 1:=Nat.succ_le_succ hni
   have hbi2:bl.length≤i + 1:=Nat.le_succ_of_le hbi
   clear C55 hown7 hrs1 hyr hRB8
   rw [hRA]
   clear hRA
   go_upto_region 20 with fail
   go_cut [148] from 125 to 148 (fun v148 wc=>v148=.bool false∧Below w8'.heap.size w8' wc)
   case first =>
    have q1:(if (1:Int) < (rn:Int) then (rn:Int) - 1 else 0)=(rn:Int) - 1:=by split <;> omega
    go_region_held3 (fun w':World=>w'.cell? ⟨g,0,none⟩=some (.int .i64 x.nd)∧w'.cell? ⟨g,1,none⟩=some (.slice x.A x.n x.c)∧w'.cell? ⟨g,2,none⟩=some (.slice x.SA x.sn x.sc)∧w'.cell? ⟨g,3,none⟩=some (.slice x.B x.m x.d)∧w'.cell? (adR.add n)=some (.slice y.A y.n y.c))
     (first | with_reducible exact S7 | with_reducible exact S6 | with_reducible exact S0d | with_reducible exact S0 | fail)
     (first
      | (go_at_call 54;refine (HC54.out _ hb8d hRBd).mono ?_;rintro e w6 ⟨⟨SB,cB,rfl,hCs⟩,b6⟩;have b6r:=bel hbd b6;have S6:=HMR.out _ b6r)
      | (go_at_call 28;refine (HC28.out _ SB cB b6r hCs).mono ?_;rintro e w7 ⟨rfl,b7⟩;have b7r:=bel b6r b7;have S7:=HMR.out _ b7r)
      | fail)
    all_goals go_wp2_with fail
    all_goals go_meet
    all_goals exact ⟨rfl,b7r⟩
   case rest =>
   obtain ⟨rfl,hbc2⟩:=hcut
   rw [←HRA.out]
   have hbF:=bel hb88 hbc2
   have hownF:=own_below hown8 hbc2
   clear S0 S0d hbd hb8d hRBd m1 m2 m3 m10 m11 m12 m13 m14
   go_wp2_with fail
   go_roundw
   case rel=>(go_light;exact ⟨i + 1,n + 1,bl,by go_num,by go_num,hlt,hni2,hbi2,hownF,HST.out,hbF⟩)
   case measure=>(go_light;simp [intOf];omega)
structure AV where
 acc:Bool
 PA:Option Addr
 pn:Nat
 pc:Nat
 ts:List TV
 VA:Option Addr
 vn:Nat
 vc:Nat
 v:List Int
 RA:Option Addr
 rn:Nat
 rc:Nat
 bl:List BV
def AV.zero:AV:=⟨false,none,0,0,[],none,0,0,[],none,0,0,[]⟩
def Cs.zero:Cs:=⟨0,none,0,0,[],none,0,0,[],none,0,0,[]⟩
end Go.Proofs.YtippdjmpkafifaaGreat
namespace Go.Proofs.YtippdjmpkafifaaGreat
open Go.ChangeShapes Go.WideShapes Go.Deep Go.RowKit
section
variable {H : Type} {enc : TypeId × Value → H} {P : Program} {w : World} {base : Nat} {spare : Nat → Bool} {held : Bool}
set_option maxRecDepth 100000 in
theorem open_slice_fields {t e:TypeId} {fs:Array Field} {fuel:Nat} {cs:List Value} {x:DataW H × List MemPlace} (ht:P.underlying t=some (.slice e)) (he:P.underlying e=some (.struct fs))
  (hone:oneCellFields P fs=true) (hC:P.cellsOf e=fs.size) (h:DataW.trod enc P w base spare held fuel t cs=some x) :
  (cs=[.slice none 0 0]∧x=(.nil,[])) ∨
  ∃ (a:Addr) (len cap m:Nat) (D:Nat→DataW H) (Pl:Nat→List MemPlace),cs=[.slice (some a) len cap]∧base≤a.block∧len≤cap∧cap≤maxLen∧m=(if spare a.block then cap else len) ∧
   x=(.slice ((List.range len).map D) ((List.range (m - len)).map fun j=>D (len + j)),MemPlace.row a (m * fs.size) ++ (List.range m).flatMap Pl) ∧
   ∀ i,i < m→∃ (ys:List (DataW H × List MemPlace)) (n:Nat),D i=.agg (ys.map (·.1))∧Pl i=ys.flatMap (·.2)∧ys.length=fs.size ∧
    ∀ (j:Nat) (f:Field),fs[j]? = some f→∃ (v:Value) (y:DataW H × List MemPlace),w.cell? (a.add (i * fs.size + j))=some v∧ys[j]? = some y∧DataW.trod enc P w base spare held n f.type [v] = some y:=by
 rcases open_slice ht h with h0 | ⟨a,len,cap,m,n,D,Pl,hcs,hb,hl,hm,hmm,hx,hi⟩
 ·exact .inl h0
 ·refine .inr ⟨a,len,cap,m,D,Pl,hcs,hb,hl,hm,hmm,by rw [hC] at hx;exact hx,fun i him=>?_⟩
  obtain ⟨cs',hc,ht'⟩:=hi i him
  rw [hC] at hc
  obtain ⟨ys,n',hn',hy,hlen,hyl,hf⟩:=DataW.trod_struct he ht'
  obtain ⟨_,hcl,hat⟩:=World.cells?_some hc
  simp only [Prod.mk.injEq] at hy
  refine ⟨ys,n',hy.1,hy.2,hyl,fun j f hj=>?_⟩
  obtain ⟨ho,hk⟩:=hone_of hone j f hj
  have hjl:j < fs.size:=(Array.getElem?_eq_some_iff.1 hj).1
  have hcell:=hat j hjl
  have hv:cs'[j]? = some (cs'[j]'(by omega)):=List.getElem?_eq_getElem (by omega)
  have h1:=hf j f hj
  rw [ho,hk] at h1
  have hone':(cs'.drop j).take 1=[cs'[j]'(by omega)]:=by
   rw [List.drop_eq_getElem_cons (by omega)]
   rfl
  rw [hone'] at h1
  have hys:ys[j]? = some (ys[j]'(by omega)):=List.getElem?_eq_getElem (by omega)
  refine ⟨_,_,?_,hys,h1.trans hys⟩
  rw [←Go.Deep.add_add,hcell,hv]
end
section
variable {H : Type} {enc : TypeId × Value → H} {P : Program}
theorem post_of_below {f:Func} {s:ChangeSpec} {apart fresh handsOn again:Bool} {W W':World} {args:Array Value} {v:Value} {ds gs:List (DataW H)} {before pa pv:List MemPlace}
  (hW:DataW.Whole enc P f.params.toList s.vars apart W args.toList ds gs before)
  (hres:∀ (b:Nat) (sp:Nat→Bool) (hd:Bool),DataW.TrodAll enc P W' b sp hd f.resultTypes.toList (v.resultList f.resultTypes.size) (s.fn H (ds ++ gs)).results [])
  (hargs:∀ sp:Nat→Bool,(∀ p ∈ before,sp p.block=true)→DataW.TrodAll enc P W' 0 sp true f.params.toList args.toList (s.fn H (ds ++ gs)).args pa)
  (hvars:∀ sp:Nat→Bool,(∀ p ∈ before,sp p.block=true)→DataW.TrodVars enc P W' sp s.vars (s.fn H (ds ++ gs)).vars pv)
  (hps:before=pa ++ pv) (hb:Below W.heap.size W W')
  (hok:∀ (j:Nat) (t:TypeId) (r:Value),f.resultTypes[j]? = some t→(v.resultList f.resultTypes.size)[j]? = some r→Value.okWide P W' .any 0 t r) :
  s.post enc P f apart fresh handsOn again W args v W':=by
 have hlt:∀ p ∈ before,p.block < W.heap.size:=fun p hp=>hW.lt p hp
 have hold:∀ p ∈ before,(fun b=>decide (b < W.heap.size)) p.block=true:=fun p hp=>by simpa using hlt p hp
 refine ⟨ds,gs,before,[],pa,pv,hW,hres _ _ _,hargs _ hold,hvars _ hold,World.keptBut_mono (fun p hp=>⟨hp,?_⟩) (hb.frame (· ∈ before)),fun _=>?_⟩
 ·rw [hps,List.mem_append] at hp
  exact Or.inr hp
 ·obtain ⟨_,_,_,_,_,hz,hn⟩:=hW
  refine ⟨hok,_,_,([] ++ pa) ++ pv,⟨[] ++ pa,pv,trodAll_append (hargs _ (fun _ _=>rfl)) (hres _ _ _),hvars _ (fun _ _=>rfl),rfl,?_,?_⟩,?_⟩
  ·intro b off hp
   have hin:MemPlace.cell b off ∈ before:=by rw [hps];simpa using hp
   rw [hb.frozen (hlt _ hin)]
   exact hz b off hin
  ·intro ha
   have:=hn ha
   rw [hps] at this
   simpa using this
  ·intro p hp _
   rw [hps]
   simpa using hp
end
theorem list_of {α:Type} {n:Nat} {Q:Nat→α→Prop} (h:∀ i,i < n→∃ x,Q i x):∃ l:List α,l.length=n∧∀ i x,l[i]? = some x→Q i x:=by
 induction n with
 | zero=>exact ⟨[],rfl,fun i x hx=>by simp at hx⟩
 | succ n ih =>
  obtain ⟨l,hl,hq⟩:=ih (fun i hi=>h i (by omega))
  obtain ⟨x,hx⟩:=h n (by omega)
  refine ⟨l ++ [x],by simp [hl],fun i y hy=>?_⟩
  rw [List.getElem?_append] at hy
  split at hy
  ·exact hq i y hy
  ·rename_i hlt
   have e:i=n:=by
    by_cases e:i - l.length=0
    ·omega
    ·rw [List.getElem?_eq_none (by simp;omega)] at hy;cases hy
   subst e
   rw [←hl,Nat.sub_self] at hy
   simp at hy
   subst hy;exact hx
theorem winCells_cell {w:World} {ad:Addr} {l:List (Int × Int)} (h:∀ i p,l[i]? = some p→w.cell? (ad.add (i * 2))=some (.int .i64 p.1)∧w.cell? (ad.add (i * 2 + 1))=some (.int .i64 p.2)) :
  ∀ j u,(winCells l)[j]? = some u→w.cell? (ad.add j)=some u:=by
 intro j u hu
 have hj:j < (winCells l).length:=(List.getElem?_eq_some_iff.1 hu).1
 rw [winCells_len] at hj
 have hp:l[j / 2]? = some (l[j / 2]'(by omega)):=List.getElem?_eq_getElem (by omega)
 obtain ⟨g1,g2⟩:=winCells_get l _ _ hp
 obtain ⟨k1,k2⟩:=h _ _ hp
 by_cases e:j % 2=0
 ·have:j=j / 2 * 2:=by omega
  rw [this] at hu ⊢
  rw [g1] at hu
  injection hu with hu
  rw [←hu];exact k1
 ·have:j=j / 2 * 2 + 1:=by omega
  rw [this] at hu ⊢
  rw [g2] at hu
  injection hu with hu
  rw [←hu];exact k2
section
variable {H : Type} {enc : TypeId × Value → H} {P : Program}
theorem trodAll_stays (hl:laidOutB P=true) {W W':World} {sp:Nat→Bool} (hb:Below W.heap.size W W') :
  ∀ (ts:List TypeId) (vs:List Value) (ds:List (DataW H)) (ps:List MemPlace),(∀ t ∈ ts,P.readableRec t=true∧t < P.types.size)→DataW.TrodAll enc P W 0 (fun _=>true) true ts vs ds ps →
   (∀ x ∈ ps,x.block < W.heap.size)→(∀ x ∈ ps,sp x.block=true)→DataW.TrodAll enc P W' 0 sp true ts vs ds ps:=by
 intro ts
 induction ts with
 | nil=>intro vs ds ps _ h _ _;cases vs <;> cases ds <;> first | exact h | exact h.elim
 | cons t ts ih =>
  intro vs ds ps hts h hlt hsp
  match vs,ds,h with
  | v :: vs,d :: ds,⟨p,q,h1,h2,e⟩ =>
   subst e
   have ht:=hts t (List.mem_cons_self ..)
   exact ⟨p,q,WideElems.Trod_stays hl ht.1 ht.2 h1 (fun x hx=>hb.same (hlt x (List.mem_append_left _ hx))) (fun x hx=>hsp x (List.mem_append_left _ hx)),
    ih vs ds q (fun t' h'=>hts t' (List.mem_cons_of_mem _ h')) h2 (fun x hx=>hlt x (List.mem_append_right _ hx)) (fun x hx=>hsp x (List.mem_append_right _ hx)),rfl⟩
end
set_option maxRecDepth 100000 in
theorem Tryz.laid:laidOutB Tryz.prog=true:=by kernel_rfl
section
variable {H : Type} {enc : TypeId × Value → H}
set_option maxRecDepth 100000 in
theorem post_true {f:Func} {s:ChangeSpec} {W W':World} {args:Array Value} {ds:List (DataW H)} {before:List MemPlace} (hts:∀ t ∈ f.params.toList,Tryz.prog.readableRec t=true∧t < Tryz.prog.types.size)
  (hv:s.vars=[]) (hres:f.resultTypes=#[4]) (hW:DataW.Whole enc Tryz.prog f.params.toList s.vars false W args.toList ds [] before)
  (hspec:s.fn H (ds ++ [])={ results:=[.lit (.bool true)],args:=ds }) (hb:Below W.heap.size W W'):s.post enc Tryz.prog f false true false false W args (.bool true) W':=by
 have hW':=hW
 obtain ⟨p,q,hA,hV,rfl,hfz,hnd⟩:=hW
 rw [hv] at hV
 obtain ⟨_,rfl⟩:=trodVars_none hV
 have hlt:∀ x ∈ p ++ [],x.block < W.heap.size:=fun x hx=>hW'.lt x hx
 rw [List.append_nil] at hlt
 refine post_of_below (pa:=p) (pv:=[]) hW' ?_ ?_ ?_ rfl hb ?_
 ·intro b sp hd
  rw [hspec,hres]
  exact trodAll_cons_mk (shut_bool Tryz.underlying4 _) trodAll_mk0
 ·intro sp hsp
  rw [hspec]
  exact trodAll_stays Tryz.laid hb _ _ _ _ hts hA hlt (fun x hx=>hsp x (by simpa using hx))
 ·intro sp _
  rw [hspec,hv]
  rfl
 ·exact ok_one hres rfl (okWide_bool_mk Tryz.underlying4 _)
end
end Go.Proofs.YtippdjmpkafifaaGreat
namespace Go.Proofs.YtippdjmpkafifaaGreat
open Go.ChangeShapes Go.WideShapes Go.Deep Go.RowKit
section
variable {H : Type} {enc : TypeId × Value → H} {W : World} {base b0 : Nat} {spare : Nat → Bool} {held : Bool} {r : Reach}
set_option maxRecDepth 100000 in
theorem wins_of_trod {fuel:Nat} {v:Value} {x:DataW H × List MemPlace} (hf:DataW.trod enc Tryz.prog W b0 spare held fuel 45 [v] = some x):∃ A n c l,v=.slice A n c∧Wins W A n l:=by
 rcases open_slice_fields Tryz.underlying45 Tryz.underlying158 (by kernel_rfl) (by kernel_rfl) hf with ⟨hcs,_⟩ | ⟨a,len,cap,m,D,Pl,hcs,_,hlc,_,hm,_,hcell⟩
 ·simp at hcs
  subst hcs
  exact ⟨none,0,0,[],rfl,rfl,rfl,fun h0=>absurd h0 (by omega)⟩
 ·simp at hcs
  subst hcs
  have hlm:len≤m:=by rw [hm];split <;> omega
  have key:∀ i,i < len→∃ p:Int × Int,W.cell? (a.add (i * 2))=some (.int .i64 p.1)∧W.cell? (a.add (i * 2 + 1))=some (.int .i64 p.2):=by
   intro i hi
   obtain ⟨ys,n,_,_,_,hfld⟩:=hcell i (by omega)
   obtain ⟨v0,y0,c0,_,t0⟩:=hfld 0 _ rfl
   obtain ⟨v1,y1,c1,_,t1⟩:=hfld 1 _ rfl
   obtain ⟨n0,e0,_⟩:=DataW.trod_int Tryz.underlying3 t0
   obtain ⟨n1,e1,_⟩:=DataW.trod_int Tryz.underlying3 t1
   simp at e0 e1
   subst e0 e1
   exact ⟨(n0,n1),c0,c1⟩
  obtain ⟨l,hl,hq⟩:=list_of key
  exact ⟨_,_,_,l,rfl,hl.symm,by rw [winCells_len,hl],fun _=>⟨a,rfl,winCells_cell hq⟩⟩
set_option maxRecDepth 100000 in
theorem ints_of_trod {fuel:Nat} {v:Value} {x:DataW H × List MemPlace} (hf:DataW.trod enc Tryz.prog W b0 spare held fuel 48 [v] = some x):∃ A n c l,v=.slice A n c∧Ints W A n l:=by
 rcases open_slice Tryz.underlying48 hf with ⟨hcs,_⟩ | ⟨a,len,cap,m,n,D,Pl,hcs,_,hlc,_,hm,_,hcell⟩
 ·simp at hcs
  subst hcs
  exact ⟨none,0,0,[],rfl,rfl,rfl,fun h0=>absurd h0 (by omega)⟩
 ·simp at hcs
  subst hcs
  have hC:Tryz.prog.cellsOf 3=1:=by kernel_rfl
  have hlm:len≤m:=by rw [hm];split <;> omega
  have key:∀ i,i < len→∃ p:Int,W.cell? (a.add i)=some (.int .i64 p):=by
   intro i hi
   obtain ⟨cs',hc,ht'⟩:=hcell i (by omega)
   rw [hC,Nat.mul_one] at hc
   obtain ⟨_,_,hat⟩:=World.cells?_some hc
   obtain ⟨n0,e0,_⟩:=DataW.trod_int Tryz.underlying3 ht'
   subst e0
   have h0:=hat 0 (by omega)
   rw [Go.Deep.add_add,Nat.add_zero] at h0
   exact ⟨n0,h0⟩
  obtain ⟨l,hl,hq⟩:=list_of key
  refine ⟨_,_,_,l,rfl,hl.symm,by simp [intCells,hl],fun _=>⟨a,rfl,?_⟩⟩
  intro j u hu
  rw [intCells,List.getElem?_map] at hu
  obtain ⟨y,hy,rfl⟩:=Option.map_eq_some_iff.1 hu
  exact hq j y hy
theorem reqCells_cell {w:World} {ad:Addr} {l:List Q} (h:∀ i q,l[i]? = some q→∀ j u,q.cells[j]? = some u→w.cell? (ad.add (i * 7 + j))=some u) :
  ∀ j u,(reqCells l)[j]? = some u→w.cell? (ad.add j)=some u:=by
 intro j u hu
 have hj:j < (reqCells l).length:=(List.getElem?_eq_some_iff.1 hu).1
 rw [reqCells_len] at hj
 have hp:l[j / 7]? = some (l[j / 7]'(by omega)):=List.getElem?_eq_getElem (by omega)
 have hjj:j=j / 7 * 7 + j % 7:=by omega
 have g:=reqCells_get l _ _ hp (j % 7) (by omega)
 rw [←hjj,hu] at g
 have:=h _ _ hp (j % 7) u g.symm
 rwa [←hjj] at this
set_option maxRecDepth 100000 in
theorem reqs_of_trod {fuel:Nat} {v:Value} {x:DataW H × List MemPlace} (hf:DataW.trod enc Tryz.prog W b0 spare held fuel 26 [v] = some x):∃ A n c l,v=.slice A n c∧Reqs W A n l:=by
 rcases open_slice_fields Tryz.underlying26 Tryz.underlying47 (by kernel_rfl) (by kernel_rfl) hf with ⟨hcs,_⟩ | ⟨a,len,cap,m,D,Pl,hcs,_,hlc,_,hm,_,hcell⟩
 ·simp at hcs
  subst hcs
  exact ⟨none,0,0,[],rfl,rfl,⟨rfl,fun h0=>absurd h0 (by omega)⟩,fun q hq=>by simp at hq⟩
 ·simp at hcs
  subst hcs
  have hlm:len≤m:=by rw [hm];split <;> omega
  have key:∀ i,i < len→∃ q:Q,Wins W q.A q.n q.l∧∀ j u,q.cells[j]? = some u→W.cell? (a.add (i * 7 + j))=some u:=by
   intro i hi
   obtain ⟨ys,n,_,_,_,hfld⟩:=hcell i (by omega)
   obtain ⟨v0,y0,c0,_,t0⟩:=hfld 0 _ rfl
   obtain ⟨v1,y1,c1,_,t1⟩:=hfld 1 _ rfl
   obtain ⟨v2,y2,c2,_,t2⟩:=hfld 2 _ rfl
   obtain ⟨v3,y3,c3,_,t3⟩:=hfld 3 _ rfl
   obtain ⟨v4,y4,c4,_,t4⟩:=hfld 4 _ rfl
   obtain ⟨v5,y5,c5,_,t5⟩:=hfld 5 _ rfl
   obtain ⟨v6,y6,c6,_,t6⟩:=hfld 6 _ rfl
   obtain ⟨n0,e0,_⟩:=DataW.trod_int Tryz.underlying3 t0
   obtain ⟨n1,e1,_⟩:=DataW.trod_int Tryz.underlying3 t1
   obtain ⟨n2,e2,_⟩:=DataW.trod_int Tryz.underlying3 t2
   obtain ⟨n3,e3,_⟩:=DataW.trod_int Tryz.underlying3 t3
   obtain ⟨n4,e4,_⟩:=DataW.trod_int Tryz.underlying3 t4
   obtain ⟨n5,e5,_⟩:=DataW.trod_int Tryz.underlying3 t5
   obtain ⟨A,nn,cc,l,rfl,hw⟩:=wins_of_trod t6
   simp at e0 e1 e2 e3 e4 e5
   subst e0 e1 e2 e3 e4 e5
   refine ⟨⟨n0,n1,n2,n3,n4,n5,A,nn,cc,l⟩,hw,?_⟩
   intro j u hu
   rcases j with _ | _ | _ | _ | _ | _ | _ | j <;> simp [Q.cells] at hu <;> subst hu <;> assumption
  obtain ⟨l,hl,hq⟩:=list_of key
  refine ⟨_,_,_,l,rfl,hl.symm,⟨by rw [reqCells_len,hl],fun _=>⟨a,rfl,reqCells_cell fun i q hi=>(hq i q hi).2⟩⟩,?_⟩
  intro q hq'
  obtain ⟨i,hi⟩:=List.mem_iff_getElem?.1 hq'
  exact (hq i q hi).1
set_option maxRecDepth 100000 in
theorem open_ints {v:Value} {d:DataW H} {ps:List MemPlace} (hval:Value.okWide Tryz.prog W r base 48 v) (h:DataW.Trod enc Tryz.prog W b0 spare held 48 v d ps):∃ A n c l,v=.slice A n c∧Ints W A n l:=by
 obtain ⟨a0,len,cap,rfl⟩:=okWide_slice Tryz.underlying48 hval
 obtain ⟨fuel,hf⟩:=h
 exact ints_of_trod hf
end
end Go.Proofs.YtippdjmpkafifaaGreat
namespace Go.Proofs.YtippdjmpkafifaaGreat
open Go.ChangeShapes Go.WideShapes Go.Deep Go.RowKit
section
variable {H : Type} {enc : TypeId × Value → H} {W : World} {base b0 : Nat} {spare : Nat → Bool} {held : Bool} {r : Reach}
set_option maxRecDepth 100000 in
theorem cints_of_trod {fuel:Nat} {v:Value} {x:DataW H × List MemPlace} (hf:DataW.trod enc Tryz.prog W b0 spare held fuel 48 [v] = some x):∃ A n c l,v=.slice A n c∧Ints W A n l∧n≤c:=by
 rcases open_slice Tryz.underlying48 hf with ⟨hcs,_⟩ | ⟨a,len,cap,m,n,D,Pl,hcs,_,hlc,_,hm,_,hcell⟩
 ·simp at hcs
  subst hcs
  exact ⟨none,0,0,[],rfl,⟨rfl,rfl,fun h0=>absurd h0 (by omega)⟩,Nat.le_refl _⟩
 ·simp at hcs
  subst hcs
  have hC:Tryz.prog.cellsOf 3=1:=by kernel_rfl
  have hlm:len≤m:=by rw [hm];split <;> omega
  have key:∀ i,i < len→∃ p:Int,W.cell? (a.add i)=some (.int .i64 p):=by
   intro i hi
   obtain ⟨cs',hc,ht'⟩:=hcell i (by omega)
   rw [hC,Nat.mul_one] at hc
   obtain ⟨_,_,hat⟩:=World.cells?_some hc
   obtain ⟨n0,e0,_⟩:=DataW.trod_int Tryz.underlying3 ht'
   subst e0
   have h0:=hat 0 (by omega)
   rw [Go.Deep.add_add,Nat.add_zero] at h0
   exact ⟨n0,h0⟩
  obtain ⟨l,hl,hq⟩:=list_of key
  refine ⟨_,_,_,l,rfl,⟨hl.symm,by simp [intCells,hl],fun _=>⟨a,rfl,?_⟩⟩,hlc⟩
  intro j u hu
  rw [intCells,List.getElem?_map] at hu
  obtain ⟨y,hy,rfl⟩:=Option.map_eq_some_iff.1 hu
  exact hq j y hy
theorem roads_cell {w:World} {ad:Addr} {l:List Ro} (h:∀ i q,l[i]? = some q→∀ j u,(roadCells q)[j]? = some u→w.cell? (ad.add (i * 4 + j))=some u) :
  ∀ j u,(l.flatMap roadCells)[j]? = some u→w.cell? (ad.add j)=some u:=by
 intro j u hu
 have hj:j < (l.flatMap roadCells).length:=(List.getElem?_eq_some_iff.1 hu).1
 rw [flat_len roadCells 4 (fun _=>rfl)] at hj
 have hp:l[j / 4]? = some (l[j / 4]'(by omega)):=List.getElem?_eq_getElem (by omega)
 have hjj:j=j / 4 * 4 + j % 4:=by omega
 have g:=flat_get roadCells 4 (fun _=>rfl) l _ _ hp (j % 4) (by omega)
 rw [←hjj,hu] at g
 have:=h _ _ hp (j % 4) u g.symm
 rwa [←hjj] at this
set_option maxRecDepth 100000 in
theorem roads_of_trod {fuel:Nat} {v:Value} {x:DataW H × List MemPlace} (hf:DataW.trod enc Tryz.prog W b0 spare held fuel 22 [v] = some x):∃ A n c l,v=.slice A n c∧Roads W A n l:=by
 rcases open_slice_fields Tryz.underlying22 Tryz.underlying134 (by kernel_rfl) (by kernel_rfl) hf with ⟨hcs,_⟩ | ⟨a,len,cap,m,D,Pl,hcs,_,hlc,_,hm,_,hcell⟩
 ·simp at hcs
  subst hcs
  exact ⟨none,0,0,[],rfl,rfl,rfl,fun h0=>absurd h0 (by omega)⟩
 ·simp at hcs
  subst hcs
  have hlm:len≤m:=by rw [hm];split <;> omega
  have key:∀ i,i < len→∃ q:Ro,∀ j u,(roadCells q)[j]? = some u→W.cell? (a.add (i * 4 + j))=some u:=by
   intro i hi
   obtain ⟨ys,n,_,_,_,hfld⟩:=hcell i (by omega)
   obtain ⟨v0,y0,c0,_,t0⟩:=hfld 0 _ rfl
   obtain ⟨v1,y1,c1,_,t1⟩:=hfld 1 _ rfl
   obtain ⟨v2,y2,c2,_,t2⟩:=hfld 2 _ rfl
   obtain ⟨v3,y3,c3,_,t3⟩:=hfld 3 _ rfl
   obtain ⟨n0,e0,_⟩:=DataW.trod_int Tryz.underlying3 t0
   obtain ⟨n1,e1,_⟩:=DataW.trod_int Tryz.underlying3 t1
   obtain ⟨n2,e2,_⟩:=DataW.trod_int Tryz.underlying3 t2
   obtain ⟨n3,e3,_⟩:=DataW.trod_int Tryz.underlying3 t3
   simp at e0 e1 e2 e3
   subst e0 e1 e2 e3
   refine ⟨⟨n0,n1,n2,n3⟩,?_⟩
   intro j u hu
   rcases j with _ | _ | _ | _ | j <;> simp [roadCells] at hu <;> subst hu <;> assumption
  obtain ⟨l,hl,hq⟩:=list_of key
  exact ⟨_,_,_,l,rfl,hl.symm,by rw [flat_len roadCells 4 (fun _=>rfl),hl],fun _=>⟨a,rfl,roads_cell fun i q hi=>hq i q hi⟩⟩
end
end Go.Proofs.YtippdjmpkafifaaGreat
namespace Go.Proofs.YtippdjmpkafifaaGreat
open Go.ChangeShapes Go.WideShapes Go.Deep Go.RowKit
theorem flat_cell {α:Type} (f:α→List Value) (s:Nat) (hs:∀ x,(f x).length=s) (h0:0 < s) {w:World} {ad:Addr} {l:List α} (h:∀ (i:Nat) (q:α),l[i]? = some q→∀ (j:Nat) (u:Value),(f q)[j]? = some u→w.cell? (ad.add (i * s + j))=some u) :
  ∀ j u,(l.flatMap f)[j]? = some u→w.cell? (ad.add j)=some u:=by
 intro j u hu
 have hj:j < (l.flatMap f).length:=(List.getElem?_eq_some_iff.1 hu).1
 rw [flat_len f s hs] at hj
 have hd:j / s < l.length:=Nat.div_lt_of_lt_mul (by rw [Nat.mul_comm];exact hj)
 have hp:l[j / s]? = some (l[j / s]'hd):=List.getElem?_eq_getElem hd
 have hm:j % s < s:=Nat.mod_lt _ h0
 have hjj:j=j / s * s + j % s:=by rw [Nat.mul_comm];exact (Nat.div_add_mod j s).symm
 have g:=flat_get f s hs l _ _ hp (j % s) hm
 rw [←hjj,hu] at g
 have:=h _ _ hp (j % s) u g.symm
 rwa [←hjj] at this
section
variable {H : Type} {enc : TypeId × Value → H} {W : World} {base b0 : Nat} {spare : Nat → Bool} {held : Bool} {r : Reach}
set_option maxRecDepth 100000 in
theorem shifts_of_trod {fuel:Nat} {v:Value} {x:DataW H × List MemPlace} (hf:DataW.trod enc Tryz.prog W b0 spare held fuel 25 [v] = some x):∃ A n c l,v=.slice A n c∧Shifts W A n l∧n≤c:=by
 rcases open_slice_fields Tryz.underlying25 Tryz.underlying63 (by kernel_rfl) (by kernel_rfl) hf with ⟨hcs,_⟩ | ⟨a,len,cap,m,D,Pl,hcs,_,hlc,_,hm,_,hcell⟩
 ·simp at hcs
  subst hcs
  exact ⟨none,0,0,[],rfl,⟨⟨rfl,rfl,fun h0=>absurd h0 (by omega)⟩,fun q hq=>by cases hq⟩,Nat.le_refl _⟩
 ·simp at hcs
  subst hcs
  have hlm:len≤m:=by rw [hm];split <;> omega
  have key:∀ i,i < len→∃ q:S,(Ints W q.A q.n q.l)∧∀ j u,(S.cells q)[j]? = some u→W.cell? (a.add (i * 6 + j))=some u:=by
   intro i hi
   obtain ⟨ys,n,_,_,_,hfld⟩:=hcell i (by omega)
   obtain ⟨v0,y0,d0,_,t0⟩:=hfld 0 _ rfl
   obtain ⟨v1,y1,d1,_,t1⟩:=hfld 1 _ rfl
   obtain ⟨v2,y2,d2,_,t2⟩:=hfld 2 _ rfl
   obtain ⟨v3,y3,d3,_,t3⟩:=hfld 3 _ rfl
   obtain ⟨v4,y4,d4,_,t4⟩:=hfld 4 _ rfl
   obtain ⟨v5,y5,d5,_,t5⟩:=hfld 5 _ rfl
   obtain ⟨n0,e0,_⟩:=DataW.trod_int Tryz.underlying3 t0
   obtain ⟨n1,e1,_⟩:=DataW.trod_int Tryz.underlying3 t1
   obtain ⟨n2,e2,_⟩:=DataW.trod_int Tryz.underlying3 t2
   obtain ⟨n3,e3,_⟩:=DataW.trod_int Tryz.underlying3 t3
   obtain ⟨n4,e4,_⟩:=DataW.trod_int Tryz.underlying3 t4
   obtain ⟨A5,m5,c5,l5,rfl,hI5,hc5⟩:=cints_of_trod t5
   simp at e0 e1 e2 e3 e4
   subst e0 e1 e2 e3 e4
   refine ⟨⟨n0,n1,n2,n3,n4,A5,m5,c5,l5⟩,hI5,?_⟩
   intro j u hu
   rcases j with _ | _ | _ | _ | _ | _ | j <;> simp [S.cells] at hu <;> subst hu <;> assumption
  obtain ⟨l,hl,hq⟩:=list_of key
  have hall:∀ q ∈ l,Ints W q.A q.n q.l:=fun q hq'=>by
   obtain ⟨i,hi⟩:=List.mem_iff_getElem?.1 hq'
   exact (hq i q hi).1
  exact ⟨_,_,_,l,rfl,⟨⟨hl.symm,by rw [flat_len S.cells 6 (fun _=>rfl),hl],fun _=>⟨a,rfl,flat_cell S.cells 6 (fun _=>rfl) (by omega) fun i q hi=>(hq i q hi).2⟩⟩,hall⟩,hlc⟩
end
end Go.Proofs.YtippdjmpkafifaaGreat
namespace Go.Proofs.YtippdjmpkafifaaGreat
open Go.ChangeShapes Go.WideShapes Go.Deep Go.RowKit
section
variable {H : Type} {enc : TypeId × Value → H} {W : World} {base b0 : Nat} {spare : Nat → Bool} {held : Bool} {r : Reach}
set_option maxRecDepth 100000 in
theorem open_book {v:Value} {d:DataW H} {ps:List MemPlace} (hval:Value.okWide Tryz.prog W r base 44 v) (h:DataW.Trod enc Tryz.prog W b0 spare held 44 v d ps):∃ nd A n c l SA sn sc ss B m k r,v=.agg #[.int .i64 nd,.slice A n c,.slice SA sn sc,.slice B m k]∧Roads W A n l∧Shifts W SA sn ss∧Reqs W B m r∧((d.weights Tryz.prog 44).all (·≤reachBytes)=true→m * 72≤140737488351232):=by
 obtain ⟨cs,rfl,hsz⟩:=okWide_struct Tryz.underlying44 hval
 obtain ⟨fuel,hf⟩:=h
 obtain ⟨ys,n',_,hxx,hlen,hyl,hfl⟩:=DataW.trod_struct Tryz.underlying44 hf
 rw [show Tryz.prog.cellsOf 44=4 by kernel_rfl] at hsz
 obtain ⟨v0,v1,v2,v3,rfl⟩:∃ v0 v1 v2 v3,cs=#[v0,v1,v2,v3]:=by
  obtain ⟨l⟩:=cs
  rcases l with _ | ⟨v0,_ | ⟨v1,_ | ⟨v2,_ | ⟨v3,_ | ⟨v4,l⟩⟩⟩⟩⟩ <;> simp at hsz
  exact ⟨_,_,_,_,rfl⟩
 have get:∀ i,i < ys.length→∃ y,ys[i]? = some y:=fun i hi=>⟨_,List.getElem?_eq_getElem hi⟩
 have hy:ys.length=3:=hyl
 have C24:Tryz.prog.cellsOf 24=2:=by kernel_rfl
 have C25:Tryz.prog.cellsOf 25=1:=by kernel_rfl
 have C26:Tryz.prog.cellsOf 26=1:=by kernel_rfl
 have t0:=hfl 0 _ rfl
 obtain ⟨y0,g0⟩:=get 0 (by omega)
 rw [g0] at t0
 have t1:=hfl 1 _ rfl
 obtain ⟨y1,g1⟩:=get 1 (by omega)
 rw [g1] at t1
 have t2:=hfl 2 _ rfl
 obtain ⟨y2,g2⟩:=get 2 (by omega)
 rw [g2] at t2
 simp [C24,C25,C26,Value.cells] at t0 t1 t2
 obtain ⟨zs,n2,_,_,_,hzl,hzf⟩:=DataW.trod_struct Tryz.underlying24 t0
 have hz:zs.length=2:=hzl
 have C3:Tryz.prog.cellsOf 3=1:=by kernel_rfl
 have C22:Tryz.prog.cellsOf 22=1:=by kernel_rfl
 have s0:=hzf 0 _ rfl
 have s1:=hzf 1 _ rfl
 obtain ⟨z0,k0⟩:∃ y,zs[0]? = some y:=⟨_,List.getElem?_eq_getElem (by omega)⟩
 obtain ⟨z1,k1⟩:∃ y,zs[1]? = some y:=⟨_,List.getElem?_eq_getElem (by omega)⟩
 rw [k0] at s0
 rw [k1] at s1
 simp [C3,C22] at s0 s1
 obtain ⟨nd,e0,_⟩:=DataW.trod_int Tryz.underlying3 s0
 obtain ⟨A,n,c,l,e1,hR⟩:=roads_of_trod s1
 obtain ⟨SA,sn,sc,ss,e2,hS,-⟩:=shifts_of_trod t1
 obtain ⟨B,m,k,r,e3,hQ⟩:=reqs_of_trod t2
 have hw:∀ ds:List (DataW H),ds[2]? = some y2.1→(DataW.weightsEach Tryz.prog [24,25,26] ds).all (·≤reachBytes)=true→m * 72≤140737488351232:=fun ds hd hall=>by
  rcases open_slice_fields Tryz.underlying26 Tryz.underlying47 (by kernel_rfl) (by kernel_rfl) t2 with ⟨hcs,_⟩ | ⟨a,len,cap,m',D,Pl,hcs,_,hlc,_,hm,hx,_⟩
  ·rw [e3] at hcs
   injection hcs with hcs
   injection hcs with _ h1 _
   rw [h1];decide
  ·rw [e3] at hcs
   injection hcs with hcs
   injection hcs with _ h1 _
   rw [hx] at hd
   have h2:=sized_slice hall (j:=2) (t:=26) rfl hd Tryz.underlying26
   rw [List.length_map,List.length_range,show Tryz.prog.bytesOf 47=72 by kernel_rfl,←h1] at h2
   have h3:reachBytes=140737488351232:=rfl
   omega
 simp at e0 e1 e2
 subst e0 e1 e2
 subst e3
 exact ⟨nd,A,n,c,l,SA,sn,sc,ss,B,m,k,r,rfl,hR,hS,hQ,fun h=>hw (ys.map (·.1)) (by rw [List.getElem?_map,g2];rfl) (by
  rw [show d=.agg (ys.map (·.1)) from congrArg Prod.fst hxx] at h
  simpa [DataW.weights,Tryz.underlying44] using h)⟩
end
end Go.Proofs.YtippdjmpkafifaaGreat
