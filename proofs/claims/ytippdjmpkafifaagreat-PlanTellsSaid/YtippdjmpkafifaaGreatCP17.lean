import Derived.Test.YtippdjmpkafifaaGreatCP16
import Derived.Test.YtippdjmpkafifaaGreatCP6
import Derived.Test.YtippdjmpkafifaaGreatCP7
namespace Go.Proofs.YtippdjmpkafifaaGreat
open Go.RowKit
theorem elem_at {nd:Int} {l:List Ro} {s:S} {r:List Q} {v:List Int} (hok:K.ok31 nd l s r v=true) {i:Nat} {k:Int} (h:v[i]? = some k) :
  ∃ (d dn:Nat) (q:Q),k=(d:Int)∧d < r.length∧r[d]? = some q∧K.req r k=q∧q.node=(dn:Int)∧(dn:Int) < nd∧0≤q.service∧q.service≤1000000:=by
 obtain ⟨-,-,-,hrq,-,hgo⟩:=K.ok31_parts hok
 obtain ⟨h0,h1,h3⟩:=K.setGo_nodes _ _ hgo _ (List.mem_of_getElem? h)
 obtain ⟨d,hd⟩:∃ d:Nat,k=(d:Int):=⟨k.toNat,by omega⟩
 subst hd
 have hq:r[d]? = some (r[d]'(by omega)):=List.getElem?_eq_getElem (by omega)
 obtain ⟨hn,hs,-⟩:=K.right_req (hrq _ (List.mem_of_getElem? hq))
 rw [K.req_get hq] at h3
 exact ⟨d,(r[d]'(by omega)).node.toNat,_,rfl,by omega,hq,K.req_get hq,by omega,by omega,hs.1,hs.2⟩
set_option maxRecDepth 100000 in
set_option maxHeartbeats 16000000 in
theorem label64_any (x:C) (V:Option Addr) (vn vc:Nat) (v:List Int) (A:Option Addr) (tn tc:Nat) (ts:List Int) (m i P rest:Nat) (w:World) (hok:K.ok31 x.nd x.l x.s x.r v=true) (hx:At w x) (hV:Ints w V vn v) (hT:Ints w A tn ts)
  (hPP:P=2 ^ i) (hrest:rest=m - P) (hPm:P≤m) (hm:m < 64) (hml:m < 2 ^ v.length) (hi:i < vn) (hbit:m.testBit i=true)
  (hts:∀ j,j < vn→∃ y,ts[rest * 6 + j]? = some y∧(rest.testBit j=true→y=K.lab x.nd x.l x.s x.r v rest j)) :
  Calls Tryz.prog 133 #[.agg #[.int .i64 x.nd,.slice x.A x.n x.c],.agg #[.int .i64 x.s.day,.int .i64 x.s.depot,.int .i64 x.s.start,.int .i64 x.s.end_,.int .i64 x.s.tare,.slice x.s.A x.s.n x.s.c],.slice x.B x.m x.d,.slice V vn vc,.slice A tn tc,.int .i64 m,.int .i64 i] w fun e w'=>e=.returned (.int .i64 (K.lab x.nd x.l x.s x.r v m i))∧Below w.heap.size w w':=by
 have HVN:=Lib.hid hV.1
 have hv6:vn≤6:=by rw [hV.1];exact (K.ok31_parts hok).2.2.2.2.1
 have hi8:i < 8:=by omega
 have HW3:=Lib.hid (show IntKind.i64.wrap ((2:Int) ^ i)=(P:Int) by rw [wrap_pow hi8,hPP];simp)
 obtain ⟨adv,k,rfl,hk,ck⟩:=hV.at_ hi
 have hlab:=K.lab_local (nd:=x.nd) (l:=x.l) (s:=x.s) (r:=x.r) (K.case31 hok) hml hk hbit
 rw [←hPP,←hrest] at hlab
 clear hPP
 obtain ⟨d,dn,q,hkd,hd,hdq,hreq,hdn,hdn1,qs0,qs1⟩:=elem_at hok hk
 rw [hreq,hdn,←K.refLabel_eq] at hlab
 obtain ⟨F,hF⟩:∃ F,F=K.locF x.nd x.l x.s x.r v rest (dn:Int):=⟨_,rfl⟩
 have HF:=Lib.hid hF
 have hFb:=K.locF_bd (nd:=x.nd) (l:=x.l) (s:=x.s) (r:=x.r) (v:=v) (K.case31 hok) (by obtain ⟨-,-,-,st1,en1⟩:=K.check_parts (K.ok31_parts hok).2.1;omega) rest (dn:Int)
 rw [←hF] at hlab hFb
 have HLAB:=Lib.hid hlab
 subst hkd
 have hdm:d < x.m:=by rw [hx.reqs.1];exact hd
 obtain ⟨adq,q2,hqB,hgq,hwq,e0,e1,e2,e3,e4,e5,e6⟩:=hx.reqs.at_ hdm
 rw [hdq] at hgq
 injection hgq with hgq
 subst hgq
 rw [hdn] at e0
 obtain ⟨w1,hw1⟩:∃ w1:World,w1=w.alloc (.cells #[.int .i64 x.nd,.slice x.A x.n x.c] 24):=⟨_,rfl⟩
 obtain ⟨w2,hw2⟩:∃ w2:World,w2=w1.alloc (.cells #[.int .i64 x.s.day,.int .i64 x.s.depot,.int .i64 x.s.start,.int .i64 x.s.end_,.int .i64 x.s.tare,.slice x.s.A x.s.n x.s.c] 63):=⟨_,rfl⟩
 obtain ⟨w3,hw3⟩:∃ w3:World,w3=w2.alloc (.cells #[.int .i64 (dn:Int),.int .i64 q.room,.int .i64 q.kilos,.int .i64 q.service,.int .i64 q.frm,.int .i64 q.by_,.slice q.A q.n q.c] 47):=⟨_,rfl⟩
 have z1:w1.heap.size=w.heap.size + 1:=by rw [hw1];exact World.size_alloc _ _
 have z2:w2.heap.size=w.heap.size + 1 + 1:=by rw [hw2,World.size_alloc,z1]
 have b01:Below w.heap.size w w1:=by rw [hw1];exact (Below.refl _ _).alloc (Nat.le_refl _) _
 have b12:Below w1.heap.size w1 w2:=by rw [hw2];exact (Below.refl _ _).alloc (Nat.le_refl _) _
 have b23:Below w2.heap.size w2 w3:=by rw [hw3];exact (Below.refl _ _).alloc (Nat.le_refl _) _
 have hP:Net w3 w.heap.size x.nd x.A x.n x.c:=by
  have h1:Net w1 w.heap.size x.nd x.A x.n x.c:=by rw [hw1];exact Net.new _ _ _ _ _
  exact h1.below (bel b12 b23)
 have hS:Shf w3 (w.heap.size + 1) x.s:=by
  have h1:Shf w2 (w.heap.size + 1) x.s:=by rw [←z1,hw2];exact Shf.new _ _
  exact h1.below b23
 have hQ3:w3.heap[w.heap.size + 1 + 1]? = some (.cells #[.int .i64 (dn:Int),.int .i64 q.room,.int .i64 q.kilos,.int .i64 q.service,.int .i64 q.frm,.int .i64 q.by_,.slice q.A q.n q.c] 47 (0,0)):=by rw [←z2,hw3];exact heap_alloc_new _ _
 have b02:=bel b01 b12
 have hb:=bel b02 b23
 have ck:=(b02.cell (cell_lt ck)).trans ck
 have e0:=(b02.cell (cell_lt e0)).trans e0
 have e1:=(b02.cell (cell_lt e1)).trans e1
 have e2:=(b02.cell (cell_lt e2)).trans e2
 have e3:=(b02.cell (cell_lt e3)).trans e3
 have e4:=(b02.cell (cell_lt e4)).trans e4
 have e5:=(b02.cell (cell_lt e5)).trans e5
 have e6:=(b02.cell (cell_lt e6)).trans e6
 rw [hw2,hw1] at ck e0 e1 e2 e3 e4 e5 e6
 have HOK:=Lib.hid hok
 have HTS:=Lib.hid hts
 have HWQ:=Lib.hid hwq
 have HQN:=Lib.hid (hx.b4 q (List.mem_of_getElem? hdq))
 have HQB:=Lib.hid hqB
 have HPR:=Lib.hid (show IntKind.i64.wrap ((m:Int) - (P:Int))=(rest:Int) by rw [IntWalk.i64_in _ (by omega)];omega)
 have hr64:rest < 64:=by omega
 have kk3:(0:Int)≤(i:Int):=by omega
 have kk4:(i:Int) < (vn:Int):=by omega
 have kk5:(0:Int)≤(d:Int):=by omega
 have kk6:(d:Int) < (x.m:Int):=by omega
 rw [hqB]
 clear hok hts hwq hk hlab hd hdq hreq hdn hF hqB hrest hPm hml hbit hdm b01 b12 b02 z1 z2
 go_enter Tryz.func133,Tryz.ntmps133
 go_upto_region 2 with fail
 rw [←hw1,←hw2,←hw3]
 clear hw1 hw2 hw3 ck e0 e1 e2 e3 e4 e5 e6 kk5 kk6
 have hmk:∀ w',Below w3.heap.size w3 w'→(fun w':World=>Below w3.heap.size w3 w'∧w'.cell? ⟨w.heap.size,0,none⟩=some (.int .i64 x.nd)∧w'.cell? ⟨w.heap.size,1,none⟩=some (.slice x.A x.n x.c)∧w'.cell? ⟨w.heap.size + 1,0,none⟩=some (.int .i64 x.s.day)∧w'.cell? ⟨w.heap.size + 1,1,none⟩=some (.int .i64 x.s.depot)∧w'.cell? ⟨w.heap.size + 1,2,none⟩=some (.int .i64 x.s.start)∧w'.cell? ⟨w.heap.size + 1,3,none⟩=some (.int .i64 x.s.end_)∧w'.cell? ⟨w.heap.size + 1,4,none⟩=some (.int .i64 x.s.tare)∧w'.cell? ⟨w.heap.size + 1,5,none⟩=some (.slice x.s.A x.s.n x.s.c)∧w'.cell? ⟨w.heap.size + 1 + 1,0,none⟩=some (.int .i64 (dn:Int))∧w'.cell? ⟨w.heap.size + 1 + 1,1,none⟩=some (.int .i64 q.room)∧w'.cell? ⟨w.heap.size + 1 + 1,2,none⟩=some (.int .i64 q.kilos)∧w'.cell? ⟨w.heap.size + 1 + 1,3,none⟩=some (.int .i64 q.service)∧w'.cell? ⟨w.heap.size + 1 + 1,4,none⟩=some (.int .i64 q.frm)∧w'.cell? ⟨w.heap.size + 1 + 1,5,none⟩=some (.int .i64 q.by_)∧w'.cell? ⟨w.heap.size + 1 + 1,6,none⟩=some (.slice q.A q.n q.c)) w':=fun w' h=>⟨h,(hP.below h).c0,(hP.below h).c1,(hS.below h).cells.1,(hS.below h).cells.2.1,(hS.below h).cells.2.2.1,(hS.below h).cells.2.2.2.1,(hS.below h).cells.2.2.2.2.1,(hS.below h).cells.2.2.2.2.2,blk_cell (blk_below h hQ3) 0 _ rfl,blk_cell (blk_below h hQ3) 1 _ rfl,blk_cell (blk_below h hQ3) 2 _ rfl,blk_cell (blk_below h hQ3) 3 _ rfl,blk_cell (blk_below h hQ3) 4 _ rfl,blk_cell (blk_below h hQ3) 5 _ rfl,blk_cell (blk_below h hQ3) 6 _ rfl⟩
 obtain ⟨-,p0,p1,s0,s1,s2,s3,s4,s5,q0,q1,q2,q3,q4,q5,q6⟩:=hmk _ (Below.refl _ _)
 by_cases h1:x.s.day < q.frm
 ·have c1:decide (x.s.day < q.frm)=true:=decide_eq_true h1
  have HX:=Lib.hid (show K.lab x.nd x.l x.s x.r v m i=-1 by rw [HLAB.out];unfold K.refLabel;rw [if_pos (.inl h1)])
  clear hmk h1
  go_quiet (fail)
  go_wp2_with fail
  go_ret
  exact ⟨by rw [HX.out];rfl,below_drewN hb _⟩
 have c1:decide (x.s.day < q.frm)=false:=decide_eq_false h1
 by_cases h2:q.by_ < x.s.day
 ·have c2:decide (q.by_ < x.s.day)=true:=decide_eq_true h2
  have HX:=Lib.hid (show K.lab x.nd x.l x.s x.r v m i=-1 by rw [HLAB.out];unfold K.refLabel;rw [if_pos (.inr (.inl h2))])
  clear hmk h1 h2
  go_quiet (fail)
  go_wp2_with fail
  go_ret
  exact ⟨by rw [HX.out];rfl,below_drewN hb _⟩
 have c2:decide (q.by_ < x.s.day)=false:=decide_eq_false h2
 clear p0 p1 s0 s1 s2 s3 s4 s5 q0 q1 q2 q3 q4 q5 q6
 have S0:=hmk _ (Below.refl _ _)
 have hSd:∀ w',(fun w':World=>Below w3.heap.size w3 w'∧w'.cell? ⟨w.heap.size,0,none⟩=some (.int .i64 x.nd)∧w'.cell? ⟨w.heap.size,1,none⟩=some (.slice x.A x.n x.c)∧w'.cell? ⟨w.heap.size + 1,0,none⟩=some (.int .i64 x.s.day)∧w'.cell? ⟨w.heap.size + 1,1,none⟩=some (.int .i64 x.s.depot)∧w'.cell? ⟨w.heap.size + 1,2,none⟩=some (.int .i64 x.s.start)∧w'.cell? ⟨w.heap.size + 1,3,none⟩=some (.int .i64 x.s.end_)∧w'.cell? ⟨w.heap.size + 1,4,none⟩=some (.int .i64 x.s.tare)∧w'.cell? ⟨w.heap.size + 1,5,none⟩=some (.slice x.s.A x.s.n x.s.c)∧w'.cell? ⟨w.heap.size + 1 + 1,0,none⟩=some (.int .i64 (dn:Int))∧w'.cell? ⟨w.heap.size + 1 + 1,1,none⟩=some (.int .i64 q.room)∧w'.cell? ⟨w.heap.size + 1 + 1,2,none⟩=some (.int .i64 q.kilos)∧w'.cell? ⟨w.heap.size + 1 + 1,3,none⟩=some (.int .i64 q.service)∧w'.cell? ⟨w.heap.size + 1 + 1,4,none⟩=some (.int .i64 q.frm)∧w'.cell? ⟨w.heap.size + 1 + 1,5,none⟩=some (.int .i64 q.by_)∧w'.cell? ⟨w.heap.size + 1 + 1,6,none⟩=some (.slice q.A q.n q.c)) w'→(fun w':World=>Below w3.heap.size w3 w'∧w'.cell? ⟨w.heap.size,0,none⟩=some (.int .i64 x.nd)∧w'.cell? ⟨w.heap.size,1,none⟩=some (.slice x.A x.n x.c)∧w'.cell? ⟨w.heap.size + 1,0,none⟩=some (.int .i64 x.s.day)∧w'.cell? ⟨w.heap.size + 1,1,none⟩=some (.int .i64 x.s.depot)∧w'.cell? ⟨w.heap.size + 1,2,none⟩=some (.int .i64 x.s.start)∧w'.cell? ⟨w.heap.size + 1,3,none⟩=some (.int .i64 x.s.end_)∧w'.cell? ⟨w.heap.size + 1,4,none⟩=some (.int .i64 x.s.tare)∧w'.cell? ⟨w.heap.size + 1,5,none⟩=some (.slice x.s.A x.s.n x.s.c)∧w'.cell? ⟨w.heap.size + 1 + 1,0,none⟩=some (.int .i64 (dn:Int))∧w'.cell? ⟨w.heap.size + 1 + 1,1,none⟩=some (.int .i64 q.room)∧w'.cell? ⟨w.heap.size + 1 + 1,2,none⟩=some (.int .i64 q.kilos)∧w'.cell? ⟨w.heap.size + 1 + 1,3,none⟩=some (.int .i64 q.service)∧w'.cell? ⟨w.heap.size + 1 + 1,4,none⟩=some (.int .i64 q.frm)∧w'.cell? ⟨w.heap.size + 1 + 1,5,none⟩=some (.int .i64 q.by_)∧w'.cell? ⟨w.heap.size + 1 + 1,6,none⟩=some (.slice q.A q.n q.c)) w'.drew:=fun w' h=>hmk _ h.1.drew
 have hVx:∀ w',Below w3.heap.size w3 w'→Ints w' (some adv) vn v:=fun w' h=>(hV.below hb).below h
 have hXx:∀ w',Below w3.heap.size w3 w'→At w' x:=fun w' h=>(hx.below hb).below h
 have hAr:∀ w',Below w3.heap.size w3 w'→Ints w' x.s.A x.s.n x.s.l:=fun w' h=>(hXx w' h).rooms
 have hAq:∀ w',Below w3.heap.size w3 w'→Reqs w' (some adq) x.m x.r:=fun w' h=>by rw [←HQB.out];exact (hXx w' h).reqs
 have hm256:m < 256:=by omega
 have hv8:vn≤8:=by omega
 have hpl:(K.part v m).length≤1000000000:=by have h1:=K.part_len v m;rw [←HVN.out] at h1;omega
 go_region_held3 (fun w':World=>Below w3.heap.size w3 w'∧w'.cell? ⟨w.heap.size,0,none⟩=some (.int .i64 x.nd)∧w'.cell? ⟨w.heap.size,1,none⟩=some (.slice x.A x.n x.c)∧w'.cell? ⟨w.heap.size + 1,0,none⟩=some (.int .i64 x.s.day)∧w'.cell? ⟨w.heap.size + 1,1,none⟩=some (.int .i64 x.s.depot)∧w'.cell? ⟨w.heap.size + 1,2,none⟩=some (.int .i64 x.s.start)∧w'.cell? ⟨w.heap.size + 1,3,none⟩=some (.int .i64 x.s.end_)∧w'.cell? ⟨w.heap.size + 1,4,none⟩=some (.int .i64 x.s.tare)∧w'.cell? ⟨w.heap.size + 1,5,none⟩=some (.slice x.s.A x.s.n x.s.c)∧w'.cell? ⟨w.heap.size + 1 + 1,0,none⟩=some (.int .i64 (dn:Int))∧w'.cell? ⟨w.heap.size + 1 + 1,1,none⟩=some (.int .i64 q.room)∧w'.cell? ⟨w.heap.size + 1 + 1,2,none⟩=some (.int .i64 q.kilos)∧w'.cell? ⟨w.heap.size + 1 + 1,3,none⟩=some (.int .i64 q.service)∧w'.cell? ⟨w.heap.size + 1 + 1,4,none⟩=some (.int .i64 q.frm)∧w'.cell? ⟨w.heap.size + 1 + 1,5,none⟩=some (.int .i64 q.by_)∧w'.cell? ⟨w.heap.size + 1 + 1,6,none⟩=some (.slice q.A q.n q.c))
  (first | assumption | exact S0 | exact hSd _ (by assumption))
  (first
   | (go_at_call 183;refine (part31_any (some adv) vn vc v m _ (hVx _ (And.left (by assumption))) hv8 hm256).mono ?_;rintro e wb ⟨⟨RA,rn,rc,rfl,hR⟩,bb⟩;have S1:=hmk _ (bel (And.left (by assumption)) bb);have hrn:rn≤1000000000:=by (rw [hR.1];exact hpl))
   | (go_at_call 182;refine (rfits29_any x.s (some adq) x.m x.d x.r RA rn rc (K.part v m) _ (hAr _ S1.1) hx.b2 (hAq _ S1.1) hx.b3 hx.b4 hR hrn).mono ?_;rintro e wc ⟨rfl,bc⟩;have S2:=hmk _ (bel S1.1 bc))
   | fail)
 obtain ⟨fb,hfb⟩:∃ fb,fb=T.fits x.s x.r (K.part v m):=⟨_,rfl⟩
 rw [←hfb]
 have b3c:=S2.1
 have HL2:=Lib.hid (show K.lab x.nd x.l x.s x.r v m i=(if fb=false then -1 else if F < 0∨x.s.end_ < F then -1 else if (H.fit q.l F q.service).2=false∨x.s.end_ < (H.fit q.l F q.service).1 + q.service then -1 else (H.fit q.l F q.service).1 + q.service) by
  rw [HLAB.out];unfold K.refLabel;rw [←hfb]
  have g1:¬ x.s.day < q.frm:=by omega
  have g2:¬ q.by_ < x.s.day:=by omega
  simp only [g1,g2,false_or])
 clear S0 S1 S2 hR hrn hpl bb bc hfb hm256 HLAB hSd
 cases fb
 ·have HX:=Lib.hid (show K.lab x.nd x.l x.s x.r v m i=-1 by rw [HL2.out];rfl)
  clear hmk
  go_wp2_with fail
  go_ret
  exact ⟨by rw [HX.out];rfl,bel hb b3c⟩
 have hP3:=HPR.out
 have hw3:=HW3.out
 have hP4:wrap64 ((m:Int) - (P:Int))=(rest:Int):=by rw [←IntWalk.i64_left];exact hP3
 have hw4:wrap64 ((2:Int) ^ i)=(P:Int):=by rw [←IntWalk.i64_left];exact hw3
 go_upto_region 4 with fail
 obtain ⟨-,p0,p1,s0,s1,s2,s3,s4,s5,q0,-⟩:=hmk _ b3c
 have p0:=Beh.cell p0
 have p1:=Beh.cell p1
 have s0:=Beh.cell s0
 have s1:=Beh.cell s1
 have s2:=Beh.cell s2
 have s3:=Beh.cell s3
 have s4:=Beh.cell s4
 have s5:=Beh.cell s5
 have q0:=Beh.cell q0
 have C:∀ j:Beh wc,Calls Tryz.prog 184 #[.agg #[.int .i64 x.nd,.slice x.A x.n x.c],.agg #[.int .i64 x.s.day,.int .i64 x.s.depot,.int .i64 x.s.start,.int .i64 x.s.end_,.int .i64 x.s.tare,.slice x.s.A x.s.n x.s.c],.slice (some adq) x.m x.d,.slice (some adv) vn vc,.slice A tn tc,.int .i64 rest,.int .i64 dn] j.val fun e w'=>e=.returned (.int .i64 F)∧Below j.val.heap.size j.val w':=fun j=>by
  rw [HF.out,←HQB.out]
  exact arrival_any x (some adv) vn vc v A tn tc ts rest dn _ HOK.out (hXx _ (bel b3c j.property)) (hVx _ (bel b3c j.property)) ((hT.below hb).below (bel b3c j.property)) HTS.out hr64 hdn1
 clear hVx hAr hAq hXx
 refine reg_beh (by kernel_rfl) (by kernel_rfl) ?_
 repeat (go_big_quiet_step ((go_at_call 184;exact Beh.calls (C _))))
 refine wpQuiet_nil ?_
 rintro wd ⟨⟨_,bd⟩,rfl⟩
 have b3d:Below w3.heap.size w3 wd:=bel b3c bd
 clear C bd hP3 hP4 hw3 hw4
 clear p0 p1 s0 s1 s2 s3 s4 s5 q0
 obtain ⟨-,p0,p1,s0,s1,s2,s3,s4,s5,q0,q1,q2,q3,q4,q5,q6⟩:=hmk _ b3d
 by_cases h3:F < 0
 ·have c3:decide (F < 0)=true:=decide_eq_true h3
  have HX:=Lib.hid (show K.lab x.nd x.l x.s x.r v m i=-1 by rw [HL2.out,if_neg (by simp),if_pos (.inl h3)])
  clear hmk
  go_wp2_with fail
  go_ret
  exact ⟨by rw [HX.out];rfl,bel hb b3d⟩
 have c3:decide (F < 0)=false:=decide_eq_false h3
 by_cases h4:x.s.end_ < F
 ·have c4:decide (x.s.end_ < F)=true:=decide_eq_true h4
  have HX:=Lib.hid (show K.lab x.nd x.l x.s x.r v m i=-1 by rw [HL2.out,if_neg (by simp),if_pos (.inr h4)])
  clear hmk
  go_wp2_with fail
  go_ret
  exact ⟨by rw [HX.out];rfl,bel hb b3d⟩
 have c4:decide (x.s.end_ < F)=false:=decide_eq_false h4
 have HL3:=Lib.hid (show K.lab x.nd x.l x.s x.r v m i=(if (H.fit q.l F q.service).2=false∨x.s.end_ < (H.fit q.l F q.service).1 + q.service then -1 else (H.fit q.l F q.service).1 + q.service) by
  rw [HL2.out,if_neg (by simp),if_neg (by simp [h3,h4])])
 clear HL2
 go_wp2_with fail
 refine (rfit_any q.A q.n q.c q.l F q.service _ (HWQ.out.below (bel hb b3d)) HQN.out).mono ?_
 obtain ⟨FT,hFT⟩:∃ FT,FT=H.fit q.l F q.service:=⟨_,rfl⟩
 have hfit:FT.2=true→0≤F∧F≤1000000∧F≤FT.1∧FT.1 + q.service≤1000000:=fun h=>by
  rw [hFT] at h ⊢
  obtain ⟨-,z1,-,z2,z3⟩:=H.fit_ok h
  exact ⟨z1.1,z1.2,z2,z3⟩
 have HFIT:=Lib.hid hfit
 have hl3:=HL3.out
 rw [←hFT] at hl3 ⊢
 have HL4:=Lib.hid hl3
 clear hl3 HL3 hfit hFT
 obtain ⟨B,okb⟩:=FT
 rintro e we ⟨rfl,be⟩
 have b3e:=bel b3d be
 clear p0 p1 s0 s1 s2 s3 s4 s5 q0 q1 q2 q3 q4 q5 q6
 obtain ⟨-,p0,p1,s0,s1,s2,s3,s4,s5,q0,q1,q2,q3,q4,q5,q6⟩:=hmk _ b3e
 clear hmk be b3d b3c
 cases okb
 ·have HX:=Lib.hid (show K.lab x.nd x.l x.s x.r v m i=-1 by rw [HL4.out,if_pos (.inl rfl)])
  go_wp2_with fail
  go_ret
  exact ⟨by rw [HX.out];rfl,bel hb b3e⟩
 have hfit:=HFIT.out rfl
 dsimp only at hfit
 have hbs:IntKind.i64.wrap (B + q.service)=B + q.service:=IntWalk.i64_in _ (by omega)
 have hbs2:wrap64 (B + q.service)=B + q.service:=by rw [←IntWalk.i64_left];exact hbs
 clear hfit HFIT
 by_cases h5:x.s.end_ < B + q.service
 ·have c5:decide (x.s.end_ < B + q.service)=true:=decide_eq_true h5
  have HX:=Lib.hid (show K.lab x.nd x.l x.s x.r v m i=-1 by rw [HL4.out,if_pos (.inr h5)])
  go_wp2_with fail
  go_ret
  exact ⟨by rw [HX.out];rfl,bel hb b3e⟩
 ·have c5:decide (x.s.end_ < B + q.service)=false:=decide_eq_false h5
  have HX:=Lib.hid (show K.lab x.nd x.l x.s x.r v m i=B + q.service by rw [HL4.out,if_neg (by simp [h5])])
  go_wp2_with fail
  go_ret
  exact ⟨by rw [HX.out];rfl,bel hb b3e⟩
namespace K
section
variable {nd : Int} {l : List Ro} {s : S} {r : List Q} {v : List Int}
def TSat (nd:Int) (l:List Ro) (s:S) (r:List Q) (v:List Int) (N:Nat) (ts:List Int) (m i:Nat):Prop :=
 ts.length=6 * N∧∀ m' j,j < v.length→m'.testBit j=true→(m' < m∨(m'=m∧j < i))→ts[m' * 6 + j]? = some (lab nd l s r v m' j)
theorem tsat_start (N:Nat):TSat nd l s r v N (List.replicate (6 * N) 0) 1 0 :=
 ⟨by simp,fun m' j _ hb h=>by
  have:m'=0:=by omega
  rw [this,Nat.zero_testBit] at hb
  cases hb⟩
theorem TSat.skip {N m i:Nat} {ts:List Int} (h:TSat nd l s r v N ts m i) (hb:m.testBit i=false):TSat nd l s r v N ts m (i + 1) :=
 ⟨h.1,fun m' j hj hb' hc=>by
  refine h.2 m' j hj hb' ?_
  rcases hc with hc | ⟨rfl,hc⟩
  ·exact .inl hc
  ·by_cases e:j=i
   ·rw [e,hb] at hb';cases hb'
   ·exact .inr ⟨rfl,by omega⟩⟩
theorem TSat.row {N m:Nat} {ts:List Int} (h:TSat nd l s r v N ts m v.length):TSat nd l s r v N ts (m + 1) 0 :=
 ⟨h.1,fun m' j hj hb' hc=>h.2 m' j hj hb' (by
  by_cases e:m'=m
  ·exact .inr ⟨e,hj⟩
  ·exact .inl (by omega))⟩
theorem TSat.put {N m i z:Nat} {ts:List Int} (h:TSat nd l s r v N ts m i) (hz:z=m * 6 + i) (hv:v.length≤6) (hi:i < v.length) (hm:m < N):TSat nd l s r v N (ts.set z (lab nd l s r v m i)) m (i + 1):=by
 subst hz
 refine ⟨by rw [List.length_set];exact h.1,fun m' j hj hb' hc=>?_⟩
 rw [List.getElem?_set]
 by_cases e:m * 6 + i=m' * 6 + j
 ·have e1:m'=m:=by omega
  have e2:j=i:=by omega
  subst e1 e2
  rw [if_pos rfl,if_pos (by rw [h.1];omega)]
 ·rw [if_neg e]
  refine h.2 m' j hj hb' ?_
  rcases hc with hc | ⟨rfl,hc⟩
  ·exact .inl hc
  ·exact .inr ⟨rfl,by omega⟩
theorem TSat.get {N m i rest:Nat} {ts:List Int} (h:TSat nd l s r v N ts m i) (hr:rest < m) (hm:m < N) (hv:v.length≤6):∀ j,j < v.length→∃ y,ts[rest * 6 + j]? = some y∧(rest.testBit j=true→y=lab nd l s r v rest j):=fun j hj=>by
 have hl:rest * 6 + j < ts.length:=by rw [h.1];omega
 refine ⟨_,List.getElem?_eq_getElem hl,fun hb=>?_⟩
 have h1:=h.2 rest j hj hb (.inl hr)
 rw [List.getElem?_eq_getElem hl] at h1
 injection h1
end
end K
theorem own_put {w:World} {base:Nat} {e:TypeId} {size n:Nat} {v:Value} {xs:List Value} (h:w.ownsRow base e size v n xs) {ad:Addr} {m c:Nat} {o:List Int} (hO:OI w ad m c o) (k:Nat) (u:Value) (hlt:ad.block < base):(w.setCell (ad.add k) u).ownsRow base e size v n xs:=by
 obtain ⟨-,-,g,cur,rfl,-,-⟩:=hO
 rw [add_zero_block]
 refine h.kept (grow_set (grow_refl w (some g)) g k u rfl) (.inr fun e=>?_)
 have:=(h.lt g e).1
 have:g < base:=hlt
 omega
set_option maxRecDepth 100000 in
set_option maxHeartbeats 16000000 in
theorem labels31_new (x:C) (V:Option Addr) (vn vc:Nat) (v:List Int) (w:World) (hx:At w x) (hV:Ints w V vn v) (hvn:vn≤1000000000) :
  Calls Tryz.prog 82 #[.agg #[.int .i64 x.nd,.slice x.A x.n x.c],.agg #[.int .i64 x.s.day,.int .i64 x.s.depot,.int .i64 x.s.start,.int .i64 x.s.end_,.int .i64 x.s.tare,.slice x.s.A x.s.n x.s.c],.slice x.B x.m x.d,.slice V vn vc] w fun e w'=>RetLabsN w w' (K.labs x.nd x.l x.s x.r v) e:=by
 obtain ⟨w0,hw0⟩:∃ w0:World,w0=(w.alloc (.cells #[.int .i64 x.nd,.slice x.A x.n x.c] 24)).alloc (.cells #[.int .i64 x.s.day,.int .i64 x.s.depot,.int .i64 x.s.start,.int .i64 x.s.end_,.int .i64 x.s.tare,.slice x.s.A x.s.n x.s.c] 63):=⟨_,rfl⟩
 have z1:=World.size_alloc w (.cells #[.int .i64 x.nd,.slice x.A x.n x.c] 24)
 have b0:Below w.heap.size w w0:=by rw [hw0];exact bel ((Below.refl _ _).alloc (Nat.le_refl _) _) ((Below.refl _ _).alloc (Nat.le_refl _) _)
 have hN:Net w0 w.heap.size x.nd x.A x.n x.c:=by
  rw [hw0]
  exact (Net.new w x.nd x.A x.n x.c).below ((Below.refl _ _).alloc (Nat.le_refl _) _)
 have hS:Shf w0 (w.heap.size + 1) x.s:=by
  have h:=Shf.new (w.alloc (.cells #[.int .i64 x.nd,.slice x.A x.n x.c] 24)) x.s
  rw [z1] at h
  rw [hw0];exact h
 have p0:=hN.c0
 have p1:=hN.c1
 obtain ⟨s0,s1,s2,s3,s4,s5⟩:=hS.cells
 rw [hw0] at p0 p1 s0 s1 s2 s3 s4 s5
 go_enter Tryz.func82,Tryz.ntmps82
 go_wp2_with fail
 rw [←hw0]
 clear hw0 z1 p0 p1 s0 s1 s2 s3 s4 s5
 refine (right31_any x V vn vc v _ (hx.below b0) (hV.below b0) hvn).mono ?_
 obtain ⟨okb,hokb⟩:∃ okb,okb=K.ok31 x.nd x.l x.s x.r v:=⟨_,rfl⟩
 rw [←hokb]
 rintro e w1 ⟨rfl,b1⟩
 have hb:=bel b0 b1
 have hN:=hN.below b1
 have hS:=hS.below b1
 clear b0 b1
 cases okb
 ·have HX:=Lib.hid (show K.labs x.nd x.l x.s x.r v=[] by simp [K.labs,←hokb])
  clear hokb
  go_wp2_with fail
  go_ret
  exact ⟨⟨none,0,0,rfl,by rw [HX.out];exact ⟨rfl,rfl,fun h=>absurd h (by omega)⟩,fun ad e=>(nomatch e)⟩,hb⟩
 have hok:=hokb.symm
 have hv6:vn≤6:=by rw [hV.1];exact (K.ok31_parts hok).2.2.2.2.1
 have HVN:=Lib.hid hV.1
 obtain ⟨N,hNN⟩:∃ N,N=2 ^ vn:=⟨_,rfl⟩
 have hN1:1≤N:=by rw [hNN];exact Nat.two_pow_pos vn
 have hN64:N≤64:=by rw [hNN];exact Nat.pow_le_pow_right (by omega) hv6
 obtain ⟨N6,hN6⟩:∃ N6,N6=6 * N:=⟨_,rfl⟩
 have HNN:=Lib.hid (show N=2 ^ v.length by rw [hNN,HVN.out])
 have HW1:=Lib.hid (show IntKind.i64.wrap ((2:Int) ^ vn)=(N:Int) by rw [wrap_pow (by omega),hNN];simp)
 have kw6:IntKind.i64.wrap ((6:Int) * 2 ^ vn)=(N6:Int):=by
  have h1:((2:Int) ^ vn)=(N:Int):=by rw [hNN];simp
  rw [h1,IntWalk.i64_in _ (by omega)];omega
 have HW2:=Lib.hid (show wrap64 ((2:Int) ^ vn)=(N:Int) by rw [←IntWalk.i64_left];exact HW1.out)
 have kw7:wrap64 ((6:Int) * 2 ^ vn)=(N6:Int):=by rw [←IntWalk.i64_left];exact kw6
 have HKW6:=Lib.hid kw6
 have HKW7:=Lib.hid kw7
 have HOK:=Lib.hid hok
 clear hNN hokb kw6 kw7
 have hN6b:N6≤1000000:=by omega
 have hmk:=fun w'=>make_ints N6 hN6b w'
 have kw6:=HKW6.out
 have kw7:=HKW7.out
 obtain ⟨w2,hw2⟩:∃ w2:World,w2=w1.alloc (.cells (intCells (List.replicate N6 0)).toArray 3):=⟨_,rfl⟩
 have b12:Below w1.heap.size w1 w2:=by rw [hw2];exact (Below.refl _ _).alloc (Nat.le_refl _) _
 have hT2:OI w2 ⟨w1.heap.size,0,none⟩ N6 N6 (List.replicate N6 0):=⟨by simp,Nat.le_refl _,_,_,rfl,by rw [hw2];exact heap_alloc_new _ _,by simp [intCells]⟩
 have z2:w2.heap.size=w1.heap.size + 1:=by rw [hw2];exact World.size_alloc _ _
 have HTS:=Lib.hid (show K.TSat x.nd x.l x.s x.r v N (List.replicate N6 0) 1 0 by rw [hN6];exact K.tsat_start N)
 have HN6:=Lib.hid hN6
 clear hN6
 obtain ⟨adT,hadT⟩:∃ adT:Addr,adT=⟨w1.heap.size,0,none⟩:=⟨_,rfl⟩
 rw [←hadT] at hT2
 have hadb:adT.block=w1.heap.size:=by rw [hadT]
 go_upto_region 5 with fail
 rw [←hw2,←hadT]
 clear hw2 hadT hmk kw6 kw7
 go_wp2_with fail
 go_loopw [9,11] (fun v9 v11 wr=>∃ (m:Nat) (ts:List Int),v11=.int .i64 m∧1≤m∧m≤N∧OI wr adT N6 N6 ts∧Hid (K.TSat x.nd x.l x.s x.r v N ts m 0)∧(K.nlab x.nd x.l x.s x.r v m 0≤(K.labs x.nd x.l x.s x.r v).length)∧wr.ownsRow w2.heap.size 167 3 v9 (K.nlab x.nd x.l x.s x.r v m 0) (((K.labs x.nd x.l x.s x.r v).take (K.nlab x.nd x.l x.s x.r v m 0)).flatMap labCells)∧Below w1.heap.size w1 wr∧w2.heap.size≤wr.heap.size) (fun _ v11 _=>N - (intOf v11).toNat)
 case atStart=>exact ⟨1,_,rfl,Nat.le_refl _,hN1,hT2,HTS.out,by rw [K.nlab_zero];exact Nat.zero_le _,by rw [K.nlab_zero];exact World.ownsRow_nil _ _ _ _,b12,Nat.le_refl _⟩
 case round =>
  clear hT2 HTS b12
  obtain ⟨m,ts,rfl,hm1,hmN,hT,hts,hnl,hown,hbr,hsz⟩:=hrel
  by_cases hlt:m < N
  ·have hlt':decide ((m:Int) < (N:Int))=true:=by simp;exact hlt
   have hw1:=HW1.out
   have hw2:=HW2.out
   go_wp2_with fail
   clear hw1 hw2
   go_loopw [9,12] (fun v9 v12 wi=>∃ (i:Nat) (ts:List Int),v12=.int .i64 i∧i≤vn∧OI wi adT N6 N6 ts∧Hid (K.TSat x.nd x.l x.s x.r v N ts m i)∧(K.nlab x.nd x.l x.s x.r v m i≤(K.labs x.nd x.l x.s x.r v).length)∧wi.ownsRow w2.heap.size 167 3 v9 (K.nlab x.nd x.l x.s x.r v m i) (((K.labs x.nd x.l x.s x.r v).take (K.nlab x.nd x.l x.s x.r v m i)).flatMap labCells)∧Below w1.heap.size w1 wi∧w2.heap.size≤wi.heap.size) (fun _ v12 _=>vn - (intOf v12).toNat)
   case atStart=>exact ⟨0,ts,rfl,Nat.zero_le _,hT,hts,hnl,hown,hbr,hsz⟩
   case round =>
    clear hT hts hnl hown hbr hsz
    obtain ⟨i,ts,rfl,hi,hT,hts,hnl,hown,hbr,hsz⟩:=hrel
    by_cases hlti:i < vn
    ·cases hbit:m.testBit i
     ·have hb1:bits BinOp.and IntKind.i64 ((m:Int) / 2 ^ i) 1=0:=by rw [bit_at (by omega) (by omega),hbit];rfl
      have HNS:=Lib.hid (K.nlab_skip (nd:=x.nd) (l:=x.l) (s:=x.s) (r:=x.r) (v:=v) hbit)
      have HT2:=Lib.hid (hts.out.skip hbit)
      rw [←HNS.out] at hown hnl
      clear hbit hts
      go_wp2_with fail
      go_roundw
      case rel=>exact ⟨i + 1,ts,by go_num,hlti,hT,HT2.out,hnl,hown,hbr,hsz⟩
      case measure=>simp [intOf];omega
     ·have hb1:bits BinOp.and IntKind.i64 ((m:Int) / 2 ^ i) 1=1:=by rw [bit_at (by omega) (by omega),hbit];rfl
      go_upto_region 12 with fail
      clear hb1
      obtain ⟨hre,hrb⟩:=bit_rest (show m < 64 by omega) (show i < 6 by omega) hbit
      have HBIT:=Lib.hid hbit
      clear hbit hrb
      have hN':=hN.below hbr
      have hS':=hS.below hbr
      have hbw:=bel hb hbr
      have p0:=hN'.c0
      have p1:=hN'.c1
      obtain ⟨s0,s1,s2,s3,s4,s5⟩:=hS'.cells
      obtain ⟨P,hP⟩:∃ P,P=2 ^ i:=⟨_,rfl⟩
      rw [←hP] at hre
      have hpw:1≤P:=by rw [hP];exact Nat.two_pow_pos i
      obtain ⟨rest,hrest⟩:∃ rest,rest=m - P:=⟨_,rfl⟩
      have CL:=label64_any x V vn vc v (some adT) N6 N6 ts m i P rest wr HOK.out (hx.below hbw) (hV.below hbw) hT.ints hP hrest (by omega) (by omega) (by rw [←HNN.out];exact hlt) hlti HBIT.out (fun j hj=>hts.out.get (by omega) hlt (by rw [←HVN.out];exact hv6) j (by rw [←HVN.out];exact hj))
      clear hre hP hpw hrest hN' hS'
      go_wp2_with fail
      refine CL.mono ?_
      obtain ⟨L,hL⟩:∃ L,L=K.lab x.nd x.l x.s x.r v m i:=⟨_,rfl⟩
      rw [←hL]
      rintro e w3 ⟨rfl,b3⟩
      have hT3:=hT.below b3
      have hbr3:Below w1.heap.size w1 w3:=bel hbr b3
      have hown3:=own_below hown b3
      have hsz3:w2.heap.size≤w3.heap.size:=Nat.le_trans hsz b3.size
      clear CL p0 p1 s0 s1 s2 s3 s4 s5 hT hown hbr hsz b3 hbw
      obtain ⟨m6,hm6⟩:∃ m6:Nat,m6=m * 6:=⟨_,rfl⟩
      obtain ⟨z,hz⟩:∃ z:Nat,z=m6 + i:=⟨_,rfl⟩
      have HZ:=Lib.hid (show z=m * 6 + i by rw [hz,hm6])
      have hzN:z < N6:=by rw [HN6.out];omega
      obtain ⟨old,hold⟩:∃ old,ts[z]? = some old:=⟨_,List.getElem?_eq_getElem (by rw [←hT3.1];exact hzN)⟩
      have cz:=hT3.cell hold
      have fz:=hT3.free z
      have kw1:IntKind.i64.wrap ((m:Int) * 6)=(m6:Int):=by rw [IntWalk.i64_in _ (by omega)];omega
      have kw3:IntKind.i64.wrap ((m6:Int) + (i:Int))=(z:Int):=by rw [IntWalk.i64_in _ (by omega)];omega
      have kk0:(0:Int)≤(z:Int):=by omega
      have kk1:(z:Int) < (N6:Int):=by omega
      obtain ⟨w4,hw4⟩:∃ w4:World,w4=w3.setCell (adT.add z) (.int .i64 L):=⟨_,rfl⟩
      have hT4:OI w4 adT N6 N6 (ts.set z L):=by rw [hw4];exact hT3.set z L
      have hbr4:Below w1.heap.size w1 w4:=by rw [hw4];exact hbr3.setCell (by rw [add_block,hadb];exact Nat.le_refl _) _
      have z4:w4.heap.size=w3.heap.size:=by rw [hw4];simp
      have hown4:w4.ownsRow w2.heap.size 167 3 u9 (K.nlab x.nd x.l x.s x.r v m i) (((K.labs x.nd x.l x.s x.r v).take (K.nlab x.nd x.l x.s x.r v m i)).flatMap labCells):=by
       rw [hw4];exact own_put hown3 hT3 z _ (by omega)
      have HNX:=Lib.hid (K.nlab_next (nd:=x.nd) (l:=x.l) (s:=x.s) (r:=x.r) (v:=v) HBIT.out)
      have hnth:=K.labs_nth (nd:=x.nd) (l:=x.l) (s:=x.s) (r:=x.r) HOK.out (by rw [←HNN.out];exact hlt) (by rw [←HVN.out];exact hlti) HBIT.out
      rw [←hL] at hnth
      have HTK:=Lib.hid (take_snoc hnth)
      have hnl2:K.nlab x.nd x.l x.s x.r v m (i + 1)≤(K.labs x.nd x.l x.s x.r v).length:=by rw [HNX.out];exact (List.getElem?_eq_some_iff.1 hnth).1
      have HT5:=Lib.hid (show K.TSat x.nd x.l x.s x.r v N (ts.set z L) m (i + 1) by rw [hL];exact hts.out.put HZ.out (by rw [←HVN.out];exact hv6) (by rw [←HVN.out];exact hlti) hlt)
      have hll:=K.labs_len x.nd x.l x.s x.r v
      have hln:K.nlab x.nd x.l x.s x.r v m i≤1000000:=by omega
      have hsz4:w2.heap.size≤w4.heap.size:=by omega
      clear hm6 hz hold hL hnth hll hts hT3 hown3 hbr3 hnl
      go_upto_region 14 with fail
      rw [←hw4]
      clear hw4 cz fz kw1 kw3 kk0 kk1 z4 hsz3
      have ha:Below w4.heap.size w4 (w4.alloc (.cells #[.int .i64 (m:Int),.int .i64 (i:Int),.int .i64 L] 167)):=(Below.refl _ _).alloc (Nat.le_refl _) _
      have hown5:=own_below hown4 ha
      have hs2:w2.heap.size≤(w4.alloc (.cells #[.int .i64 (m:Int),.int .i64 (i:Int),.int .i64 L] 167)).heap.size:=Nat.le_trans hsz4 ha.size
      go_wp2_with (at_builtin;refine app_lab rfl (.tmp 58) (.tmp 63) rfl w2.heap.size u9 (K.nlab x.nd x.l x.s x.r v m i) ((K.labs x.nd x.l x.s x.r v).take (K.nlab x.nd x.l x.s x.r v m i)) rfl hown5 w4.heap.size m i L rfl (heap_alloc_at _ _ _ rfl) hln hs2 ?_;intro tv' w6 hown6 hgrow6 hat6)
      have b6:Below w1.heap.size w1 w6:=below_own2 (bel hbr4 ha) hgrow6 (fun g e=>by have:=(hown4.lt g e).1;omega)
      have hT6:OI w6 adT N6 N6 (ts.set z L):=(hT4.below ha).grown hgrow6 (fun e=>by have:=(hown4.lt _ e.symm).1;omega)
      have hsz6:w2.heap.size≤w6.heap.size:=Nat.le_trans hs2 hgrow6.size
      rw [←HTK.out,←HNX.out] at hown6
      clear hgrow6 hat6 hown5 hown4 hT4 ha hs2
      go_roundw
      case rel=>(go_light;exact ⟨i + 1,_,by go_num,hlti,hT6,HT5.out,hnl2,hown6,b6,hsz6⟩)
      case measure=>(go_light;simp [intOf] <;> omega)
    ·have HRW:=Lib.hid (K.nlab_row (nd:=x.nd) (l:=x.l) (s:=x.s) (r:=x.r) (v:=v) m)
     have hin:i=v.length:=by rw [←HVN.out];omega
     have HT5:=Lib.hid (show K.TSat x.nd x.l x.s x.r v N ts (m + 1) 0 by have h:=hts.out;rw [hin] at h;exact h.row)
     rw [hin,HRW.out] at hown hnl
     clear hin hts
     go_wp2_with fail
     go_roundw
     case rel=>exact ⟨m + 1,ts,by go_num,by omega,by omega,hT,HT5.out,hnl,hown,hbr,hsz⟩
     case measure=>simp [intOf];omega
  ·have hmN':m=N:=by omega
   have he:=K.nlab_end (nd:=x.nd) (l:=x.l) (s:=x.s) (r:=x.r) HOK.out
   rw [hmN',HNN.out,he,List.take_length] at hown
   have hnew9:=own_in hown
   obtain ⟨A9,c9,rfl,hRd,-⟩:=own_form hown
   have hnw9:∀ ad,A9=some ad→w.heap.size≤ad.block:=fun ad e=>(by have h1:=(hnew9 ad.block (by rw [e];rfl)).1;have h2:=hb.size;omega)
   clear hnew9
   have hw1:decide ((m:Int) < IntKind.i64.wrap ((2:Int) ^ vn))=false:=by rw [HW1.out];simp;omega
   have hw2:decide ((m:Int) < wrap64 ((2:Int) ^ vn))=false:=by rw [HW2.out];simp;omega
   clear he hmN' hts hown
   go_wp2_with fail
   clear hw1 hw2
   go_ret
   exact ⟨⟨_,_,_,rfl,⟨rfl,hRd⟩,hnw9⟩,bel hb hbr⟩
theorem labels31_any (x:C) (V:Option Addr) (vn vc:Nat) (v:List Int) (w:World) (hx:At w x) (hV:Ints w V vn v) (hvn:vn≤1000000000) :
  Calls Tryz.prog 82 #[.agg #[.int .i64 x.nd,.slice x.A x.n x.c],.agg #[.int .i64 x.s.day,.int .i64 x.s.depot,.int .i64 x.s.start,.int .i64 x.s.end_,.int .i64 x.s.tare,.slice x.s.A x.s.n x.s.c],.slice x.B x.m x.d,.slice V vn vc] w fun e w'=>RetLabs w w' (K.labs x.nd x.l x.s x.r v) e :=
 (labels31_new x V vn vc v w hx hV hvn).mono fun _ _ ⟨⟨A,n,c,h1,h2,_⟩,hb⟩=>⟨⟨A,n,c,h1,h2⟩,hb⟩
theorem lit_rd {w:World} {g:Nat} {i:Int} (h:w.heap[g]? = some (.cells #[.int .i64 i] 3 (0,0))):Rd w 1 (some ⟨g,0,none⟩) 1 [.int .i64 i] :=
 ⟨rfl,fun _=>⟨_,rfl,fun j u hu=>by
  cases j with
  | zero =>
   have hu:some (Value.int .i64 i)=some u:=hu
   injection hu with hu
   subst hu
   exact blk_cell h 0 _ rfl
  | succ j=>simp at hu⟩⟩
def Leg (x:C) (v:List Int) (i a t:Int) (w w':World) (e:Ending):Prop:=e=.returned (.tuple #[.int .i64 (K.leg x.nd x.l x.s x.r v i a t).1,.int .i64 (K.leg x.nd x.l x.s x.r v i a t).2])∧Below w.heap.size w w'
theorem leg_mk' {x:C} {v:List Int} {i a t b er:Int} {w w':World} (h:K.leg x.nd x.l x.s x.r v i a t=(b,er)) (hb:Below w.heap.size w w'):Leg x v i a t w w' (.returned (.tuple #[.int .i64 b,.int .i64 er])):=⟨by rw [h],hb⟩
set_option maxRecDepth 100000 in
set_option maxHeartbeats 16000000 in
theorem leg_any (x:C) (V:Option Addr) (vn vc:Nat) (v:List Int) (i:Nat) (q:Q) (a t:Int) (w:World) (hx:At w x) (hV:Ints w V vn v) (hvn:vn≤100000) (hne:K.netErr x.nd x.l=0) (ha:0≤a∧a < x.nd) (hq:x.r[i]? = some q) (hno:0≤q.node∧q.node < x.nd) (ht:0≤t∧t≤1000000)
  (hse:0≤q.service∧q.service≤1000000) :
  Calls Tryz.prog 180 #[.agg #[.int .i64 x.nd,.slice x.A x.n x.c],.agg #[.int .i64 x.s.day,.int .i64 x.s.depot,.int .i64 x.s.start,.int .i64 x.s.end_,.int .i64 x.s.tare,.slice x.s.A x.s.n x.s.c],.slice x.B x.m x.d,.slice V vn vc,.int .i64 i,.int .i64 a,.int .i64 t] w fun e w'=>Leg x v i a t w w' e:=by
 have him:i < x.m:=by rw [hx.reqs.1];exact (List.getElem?_eq_some_iff.1 hq).1
 obtain ⟨w1,hw1⟩:∃ w1:World,w1=w.alloc (.cells #[.int .i64 x.nd,.slice x.A x.n x.c] 24):=⟨_,rfl⟩
 obtain ⟨w2,hw2⟩:∃ w2:World,w2=w1.alloc (.cells #[.int .i64 x.s.day,.int .i64 x.s.depot,.int .i64 x.s.start,.int .i64 x.s.end_,.int .i64 x.s.tare,.slice x.s.A x.s.n x.s.c] 63):=⟨_,rfl⟩
 obtain ⟨w3,hw3⟩:∃ w3:World,w3=w2.alloc (.cells #[.int .i64 q.node,.int .i64 q.room,.int .i64 q.kilos,.int .i64 q.service,.int .i64 q.frm,.int .i64 q.by_,.slice q.A q.n q.c] 47):=⟨_,rfl⟩
 have z1:w1.heap.size=w.heap.size + 1:=by rw [hw1];exact World.size_alloc _ _
 have z2:w2.heap.size=w.heap.size + 1 + 1:=by rw [hw2,World.size_alloc,z1]
 have b01:Below w.heap.size w w1:=by rw [hw1];exact (Below.refl _ _).alloc (Nat.le_refl _) _
 have b12:Below w1.heap.size w1 w2:=by rw [hw2];exact (Below.refl _ _).alloc (Nat.le_refl _) _
 have b23:Below w2.heap.size w2 w3:=by rw [hw3];exact (Below.refl _ _).alloc (Nat.le_refl _) _
 have hP:Net w3 w.heap.size x.nd x.A x.n x.c:=by
  have h1:Net w1 w.heap.size x.nd x.A x.n x.c:=by rw [hw1];exact Net.new _ _ _ _ _
  exact (h1.below b12).below b23
 have hS:Shf w3 (w.heap.size + 1) x.s:=by
  have h1:Shf w2 (w.heap.size + 1) x.s:=by rw [←z1,hw2];exact Shf.new _ _
  exact h1.below b23
 have hQ:QBlk w3 (w.heap.size + 1 + 1) q:=by rw [←z2,hw3];exact QBlk.new w2 q
 have hb:=bel (bel b01 b12) b23
 obtain ⟨ad,q',hB,hgq,hwq,e0,e1,e2,e3,e4,e5,e6⟩:=(hx.reqs.below (bel b01 b12)).at_ him
 rw [hq] at hgq
 injection hgq with hgq
 subst hgq
 have HRQ:=Lib.hid (K.req_get hq)
 have hqn:=hx.b4 q (List.mem_of_getElem? hq)
 have i0:(0:Int)≤(i:Int):=by omega
 have i1:(i:Int) < (x.m:Int):=by omega
 have HB:=Lib.hid hB
 clear hq
 rw [hw2,hw1] at e0 e1 e2 e3 e4 e5 e6
 rw [hB]
 cases d1:decide (x.s.day < q.frm)
 rotate_left
 ·have HX:=Lib.hid (show K.leg x.nd x.l x.s x.r v i a t=(0,17) by unfold K.leg;rw [HRQ.out,if_pos (.inl (by simpa using d1))])
  clear hB
  go_enter Tryz.func180,Tryz.ntmps180
  go_wp2_with fail
  go_ret2
  rw [←hw1,←hw2,←hw3]
  exact leg_mk' HX.out hb
 cases d2:decide (q.by_ < x.s.day)
 rotate_left
 ·have HX:=Lib.hid (show K.leg x.nd x.l x.s x.r v i a t=(0,17) by unfold K.leg;rw [HRQ.out,if_pos (.inr (by simpa using d2))])
  clear hB
  go_enter Tryz.func180,Tryz.ntmps180
  go_wp2_with fail
  go_ret2
  rw [←hw1,←hw2,←hw3]
  exact leg_mk' HX.out hb
 have HD:=Lib.hid (show ¬ (x.s.day < (K.req x.r i).frm∨(K.req x.r i).by_ < x.s.day) by rw [HRQ.out];simp at d1 d2;omega)
 clear hB
 go_enter Tryz.func180,Tryz.ntmps180
 go_wp2_with fail
 rw [←hw1,←hw2,←hw3]
 clear e0 e1 e2 e3 e4 e5 e6 i0 i1 z1 z2 b01 b12 hw1 hw2 hw3
 have S0:=LAt.mk' hP hS (Below.refl w3.heap.size w3)
 have hAx:∀ w',LAt w3 w.heap.size x w'→At w' x:=fun w' h=>hx.below (bel hb h.1)
 have hVx:∀ w',LAt w3 w.heap.size x w'→Ints w' V vn v:=fun w' h=>hV.below (bel hb h.1)
 have hSn:∀ w' w'',LAt w3 w.heap.size x w'→Below w'.heap.size w' w''→LAt w3 w.heap.size x w'':=fun w' w'' h hb'=>LAt.mk' hP hS (bel h.1 hb')
 have hSd:∀ w',LAt w3 w.heap.size x w'→LAt w3 w.heap.size x w'.drew:=fun w' h=>LAt.mk' hP hS h.1.drew
 have hSa:∀ w' o',LAt w3 w.heap.size x w'→LAt w3 w.heap.size x (w'.alloc o'):=fun w' o' h=>LAt.mk' hP hS (bel h.1 ((Below.refl _ _).alloc (Nat.le_refl _) _))
 have hSg:∀ (w' w'':World) (v:Value),LAt w3 w.heap.size x w'→w'.grownBy w'' v.ownBlock→(∀ g,v.ownBlock=some g→w3.heap.size≤g)→LAt w3 w.heap.size x w'':=fun w' w'' v h hg hv=>LAt.mk' hP hS (h.1.grown hg (Nat.le_trans h.1.size (Nat.le_refl _)) hv)
 obtain ⟨i0,hi,hz0,hz1,hz2⟩:=info_parts Tryz.info3
 have HVL:=Lib.hid hV.1
 clear d1 d2
 obtain ⟨c2,c3,c4⟩:x.s.n≤1000000000∧x.m≤1000000000∧∀ q ∈ x.r,q.n≤1000000000:=⟨hx.b2,hx.b3,hx.b4⟩
 rw [←HB.out]
 go_cut [45] from 36 to 45 (fun v45 wc=>v45=.bool (!(T.fits x.s x.r (v ++ [(i:Int)])))∧Below w3.heap.size w3 wc)
 case first =>
  go_region_held3 (fun w'=>Below w3.heap.size w3 w'∧w'.cell? ⟨w.heap.size,0,none⟩=some (.int .i64 x.nd)∧w'.cell? ⟨w.heap.size,1,none⟩=some (.slice x.A x.n x.c)∧w'.cell? ⟨w.heap.size + 1,0,none⟩=some (.int .i64 x.s.day)∧w'.cell? ⟨w.heap.size + 1,1,none⟩=some (.int .i64 x.s.depot)∧w'.cell? ⟨w.heap.size + 1,2,none⟩=some (.int .i64 x.s.start) ∧
  w'.cell? ⟨w.heap.size + 1,3,none⟩=some (.int .i64 x.s.end_)∧w'.cell? ⟨w.heap.size + 1,4,none⟩=some (.int .i64 x.s.tare)∧w'.cell? ⟨w.heap.size + 1,5,none⟩=some (.slice x.s.A x.s.n x.s.c))
   (first | assumption | exact S0 | exact hSd _ (by assumption) | exact hSa _ _ (by assumption) | exact hSa _ _ (hSd _ S0))
   (first
    | (go_at_call 182;refine (rfits29_any x.s x.B x.m x.d x.r _ _ _ (v ++ [(i:Int)]) _ (hAx _ ?_).rooms c2 (hAx _ ?_).reqs c3 c4 hJ (by omega)).mono ?_;assumption;assumption;rintro e w9 ⟨rfl,hbn⟩;have hS9:=hSn _ _ (by assumption) hbn)
    | ((refine step_append_rd rfl (.tmp 38) (.tmp 39) 48 rfl w3.heap.size 3 i0 (.int .i64 0) 1 8 Tryz.underlying48 hi hz0 hz1 hz2 rfl (by decide) (.slice (some ⟨w3.heap.size,0,none⟩) 0 0) 0 [] rfl ?_ V vn vc (intCells v) rfl ?_ (intCells_one _) (by simp only [maxLen];omega) (by omega) ?_ ?_;(first | exact own_lit (heap_alloc_new w3 (.cells #[] 3)) (Nat.le_refl _) | exact own_lit (blk_alloc (heap_alloc_new w3 (.cells #[] 3)) _) (Nat.le_refl _));(refine (hVx _ (show LAt w3 w.heap.size x _ from ?_)).2;assumption);(refine (And.left (b:=_) (show LAt w3 w.heap.size x _ from ?_)).size;assumption));intro v1 w4 hown1 hgrow1 hat1;have hS1:=hSg _ _ _ (by assumption) hgrow1 (lit_block (by omega));rw [Nat.zero_add,List.nil_append] at hown1;
        (first | (have hT1:=grow_blk hgrow1 (g:=w3.heap.size + 1) (o:=(.cells #[.int .i64 (i:Int)] 3)) (heap_alloc_at (w3.alloc (.cells #[] 3)) (.cells #[.int .i64 (i:Int)] 3) (w3.heap.size + 1) (World.size_alloc _ _).symm) (lit_ne (by omega))) | skip))
    | ((refine step_append_rd rfl (.tmp 38) (.tmp 39) 48 rfl w3.heap.size 3 i0 (.int .i64 0) 1 8 Tryz.underlying48 hi hz0 hz1 hz2 rfl (by decide) (.slice (some ⟨w3.heap.size + 1,0,none⟩) 0 0) 0 [] rfl ?_ V vn vc (intCells v) rfl ?_ (intCells_one _) (by simp only [maxLen];omega) (by omega) ?_ ?_;(exact own_lit (heap_alloc_at (w3.alloc (.cells #[.int .i64 (i:Int)] 3)) (.cells #[] 3) _ (World.size_alloc _ _).symm) (by omega));(refine (hVx _ (show LAt w3 w.heap.size x _ from ?_)).2;assumption);(refine (And.left (b:=_) (show LAt w3 w.heap.size x _ from ?_)).size;assumption));intro v1 w4 hown1 hgrow1 hat1;have hS1:=hSg _ _ _ (by assumption) hgrow1 (lit_block (by omega));rw [Nat.zero_add,List.nil_append] at hown1;
        (first | (have hT1:=grow_blk hgrow1 (g:=w3.heap.size) (o:=(.cells #[.int .i64 (i:Int)] 3)) (blk_alloc (heap_alloc_new w3 (.cells #[.int .i64 (i:Int)] 3)) (.cells #[] 3)) (lit_ne (by omega))) | skip))
    | (refine step_append_rd rfl (.tmp 40) (.tmp 42) 48 rfl w3.heap.size 3 i0 (.int .i64 0) 1 8 Tryz.underlying48 hi hz0 hz1 hz2 rfl (by decide) v1 vn (intCells v) rfl ?_ _ 1 1 [.int .i64 (i:Int)] rfl ?_ (intCells_one [(i:Int)]) (by simp only [maxLen];omega) (by omega) ?_ ?_;(first | exact hown1 | exact World.ownsRow.alloc hown1 _);(first | exact lit_rd hT1 | exact lit_rd (heap_alloc_new _ (.cells #[.int .i64 (i:Int)] 3)));(refine (And.left (b:=_) (show LAt w3 w.heap.size x _ from ?_)).size;assumption);intro v2 w5 hown2 hgrow2 hat2;have hS2:=hSg _ _ _ (by assumption) hgrow2 (fun g e=>(hown1.lt g e).1);
        obtain ⟨A9,c9,rfl,hRd9,-⟩:=own_form hown2;have hJ:Ints _ A9 (vn + 1) (v ++ [(i:Int)]):=⟨by rw [List.length_append,←HVL.out];rfl,by rw [intCells_app];exact hRd9⟩))
  all_goals go_wp2_with fail
  all_goals go_meet
  all_goals exact ⟨rfl,hS9.1⟩
 case rest =>
  obtain ⟨rfl,hbc⟩:=hcut
  have hb:=bel hb hbc
  have hP:=hP.below hbc
  have hS:=hS.below hbc
  have hQ:=hQ.below hbc
  have hwq:=hwq.below (bel b23 hbc)
  clear S0 hAx hVx hSn hSd hSa hSg hi hz0 hz1 hz2 hbc b23
  cases hf:T.fits x.s x.r (v ++ [(i:Int)])
  ·have HX:=Lib.hid (show K.leg x.nd x.l x.s x.r v i a t=(0,20) by unfold K.leg;rw [if_neg HD.out,if_pos hf])
   clear hf
   go_wp2_with fail
   go_ret2
   exact leg_mk' HX.out hb
  have HF:=Lib.hid (show ¬ (T.fits x.s x.r (v ++ [(i:Int)])=false) by rw [hf];simp)
  clear hf
  obtain ⟨qn,hqn0⟩:∃ qn:Nat,q.node=(qn:Int):=⟨q.node.toNat,by omega⟩
  obtain ⟨s0,s1,s2,s3,s4,s5⟩:=hS.cells
  obtain ⟨q0,q1,q2,q3,q4,q5,q6⟩:=hQ.cells
  rw [hqn0] at q0
  have g0:=Beh.cell hP.c0
  have g1:=Beh.cell hP.c1
  have f0:=Beh.cell s0
  have f1:=Beh.cell s1
  have f2:=Beh.cell s2
  have f3:=Beh.cell s3
  have f4:=Beh.cell s4
  have f5:=Beh.cell s5
  have k0:=Beh.cell q0
  have hA4:=hx.below hb
  have hV4:=hV.below hb
  obtain ⟨wt,hwt⟩:∃ wt,wt=T.weight x.s x.r v:=⟨_,rfl⟩
  obtain ⟨y,hy⟩:∃ y,y=K.way x.nd x.l a wt qn:=⟨_,rfl⟩
  have CW:=fun j:Beh wc=>rweight_any x.s x.B x.m x.d x.r V vn vc v j.val ((hA4.below j.property).rooms) c2 ((hA4.below j.property).reqs) c3 c4 (hV4.below j.property) (by omega)
  have CY:=fun j:Beh wc=>rway_any x.nd x.A x.n x.c x.l a qn wt j.val ((hA4.below j.property).net) hx.b1 hne ha (by omega)
  simp only [←hwt] at CW
  simp only [←hy] at CY
  have hyb:=K.way_bd x.nd x.l a wt q.node
  rw [hqn0,←hy] at hyb
  obtain ⟨hy0,hy1⟩:=hyb
  have HY:=Lib.hid (show K.way x.nd x.l a (T.weight x.s x.r v) (K.req x.r i).node=y by rw [HRQ.out,hqn0,←hwt,hy])
  have HQN:=Lib.hid hqn0
  clear hy hwt hqn0 q0 q1 q2 q3 q4 q5 q6 s0 s1 s2 s3 s4 s5
  go_wp2_with fail
  refine reg_beh (by kernel_rfl) (by kernel_rfl) ?_
  repeat (go_big_quiet_step ((first | (go_at_call 146;exact Beh.calls (CW _)) | (go_at_call 181;exact Beh.calls (CY _)))))
  refine wpQuiet_nil ?_
  rintro w5 ⟨⟨_,b45⟩,rfl⟩
  have hb:=bel hb b45
  have hS:=hS.below b45
  have hQ:=hQ.below b45
  have hwq:=hwq.below b45
  clear b45 CW CY g0 g1 f0 f1 f2 f3 f4 f5 k0 hA4 hV4 hP
  obtain ⟨s0,s1,s2,s3,s4,s5⟩:=hS.cells
  obtain ⟨q0,q1,q2,q3,q4,q5,q6⟩:=hQ.cells
  cases h1:decide (y < 0)
  rotate_left
  ·have HX:=Lib.hid (show K.leg x.nd x.l x.s x.r v i a t=(0,4) by
    have hr:K.reach x.nd x.l x.s x.r v a t (K.req x.r i).node=(0,4):=by unfold K.reach;rw [HY.out,if_pos (by have h1:=of_decide_eq_true h1;omega)]
    unfold K.leg;rw [if_neg HD.out,if_neg HF.out,hr,if_pos (by decide)])
   go_wp2_with fail
   go_ret2
   exact leg_mk' HX.out hb
  have hyp:¬ y < 0:=of_decide_eq_false h1
  have hwrap:IntKind.i64.wrap (t + y)=t + y:=IntWalk.i64_in _ (by omega)
  cases h2:decide (x.s.end_ < t + y)
  rotate_left
  ·have HX:=Lib.hid (show K.leg x.nd x.l x.s x.r v i a t=(0,18) by
    have hr:K.reach x.nd x.l x.s x.r v a t (K.req x.r i).node=(0,18):=by unfold K.reach;rw [HY.out,if_neg (by omega),if_pos (of_decide_eq_true h2)]
    unfold K.leg;rw [if_neg HD.out,if_neg HF.out,hr,if_pos (by decide)])
   go_wp2_with fail
   go_ret2
   exact leg_mk' HX.out hb
  have h2':¬ x.s.end_ < t + y:=of_decide_eq_false h2
  have HR:=Lib.hid (show K.reach x.nd x.l x.s x.r v a t (K.req x.r i).node=(t + y,0) by unfold K.reach;rw [HY.out,if_neg (by omega),if_neg h2'])
  have hy2:0≤y:=by omega
  clear hyp h2'
  go_wp2_with fail
  refine (rfit_any q.A q.n q.c q.l (t + y) q.service _ hwq hqn).mono ?_
  rintro e w7 ⟨rfl,b67⟩
  have hb:=bel hb b67
  have hS:=hS.below b67
  have hQ:=hQ.below b67
  clear q0 q1 q2 q3 q4 q5 q6 s0 s1 s2 s3 s4 s5 h1 h2
  have HFO:=Lib.hid (fun h=>H.fit_ok (l:=q.l) (t:=t + y) (s:=q.service) h)
  obtain ⟨fb,hfb⟩:∃ fb,fb=(H.fit q.l (t + y) q.service).1:=⟨_,rfl⟩
  obtain ⟨ok,hok⟩:∃ ok,ok=(H.fit q.l (t + y) q.service).2:=⟨_,rfl⟩
  rw [←hfb,←hok]
  have HFB:=Lib.hid hfb
  have HOK:=Lib.hid hok
  clear hfb hok
  cases hko:ok
  ·have HX:=Lib.hid (show K.leg x.nd x.l x.s x.r v i a t=(0,19) by unfold K.leg;rw [if_neg HD.out,if_neg HF.out,HR.out,if_neg (by simp),HRQ.out,if_pos (by rw [←HOK.out];exact hko)])
   clear hko
   go_wp2_with fail
   go_ret2
   exact leg_mk' HX.out hb
  have HK1:=Lib.hid (show ¬ ((H.fit q.l (t + y) q.service).2=false) by rw [←HOK.out,hko];simp)
  obtain ⟨-,-,-,hf1,hf2⟩:=HFO.out (by rw [←HOK.out];exact hko)
  rw [←HFB.out] at hf1 hf2
  subst hko
  have hf0:0≤fb:=by omega
  clear HFO
  obtain ⟨q0,q1,q2,q3,q4,q5,q6⟩:=hQ.cells
  obtain ⟨s0,s1,s2,s3,s4,s5⟩:=hS.cells
  have hwrap:IntKind.i64.wrap (fb + q.service)=fb + q.service:=IntWalk.i64_in _ (by omega)
  cases h3:decide (x.s.end_ < fb + q.service)
  rotate_left
  ·have HX:=Lib.hid (show K.leg x.nd x.l x.s x.r v i a t=(0,18) by unfold K.leg;rw [if_neg HD.out,if_neg HF.out,HR.out,if_neg (by simp),HRQ.out,if_neg HK1.out,if_pos (by rw [←HFB.out];exact of_decide_eq_true h3)])
   go_wp2_with fail
   go_ret2
   exact leg_mk' HX.out hb
  have HX:=Lib.hid (show K.leg x.nd x.l x.s x.r v i a t=(fb,0) by unfold K.leg;rw [if_neg HD.out,if_neg HF.out,HR.out,if_neg (by simp),HRQ.out,if_neg HK1.out,if_neg (by rw [←HFB.out];exact of_decide_eq_false h3),←HFB.out])
  go_wp2_with fail
  go_ret2
  exact leg_mk' HX.out hb
structure NRel (x:C) (o:List Int) (wS:World) (S:Value) (k:Nat) (tv:Value) (a t:Int) (ts:List Int) (wr:World):Prop where
 legs:K.legs x.nd x.l x.s x.r [] x.s.depot x.s.start o=⟨ts ++ (K.legs x.nd x.l x.s x.r (o.take k) a t (o.drop k)).times,(K.legs x.nd x.l x.s x.r (o.take k) a t (o.drop k)).a,(K.legs x.nd x.l x.s x.r (o.take k) a t (o.drop k)).t,(K.legs x.nd x.l x.s x.r (o.take k) a t (o.drop k)).e⟩
 len:ts.length=k
 blk:TBlk wr wS.heap.size 0 S tv 0
 own:wr.ownsRow (wS.heap.size + 1) 3 1 tv k (intCells ts)
 a0:0≤a∧a < x.nd
 t0:0≤t∧t≤1000000
 bw:Below wS.heap.size wS wr
theorem NRel.next {x:C} {o:List Int} {wS wr w5 w6:World} {S:Value} {k:Nat} {tv tv':Value} {a t i lb le:Int} {ts:List Int} (h:NRel x o wS S k tv a t ts wr) (hi:o[k]? = some i) (hlb:lb=(K.leg x.nd x.l x.s x.r (o.take k) i a t).1) (hle:le=(K.leg x.nd x.l x.s x.r (o.take k) i a t).2) (h0:le=0)
  (hb:Below wr.heap.size wr w5)
  (hown:w6.ownsRow (wS.heap.size + 1) 3 1 tv' (k + 1) (intCells (ts ++ [lb]))) (hgrow:(w5.alloc (.cells #[.int .i64 lb] 3)).grownBy w6 tv.ownBlock)
  (hno:0≤(K.req x.r i).node∧(K.req x.r i).node < x.nd) (hse:0≤(K.req x.r i).service):NRel x o wS S (k + 1) tv' (K.req x.r i).node (lb + (K.req x.r i).service) (ts ++ [lb]) (w6.setCell ⟨wS.heap.size,2,none⟩ tv'):=by
 subst hlb
 have hl:(K.leg x.nd x.l x.s x.r (o.take k) i a t).2=0:=by rw [←hle];exact h0
 have hlt:∀ g,tv.ownBlock=some g→wS.heap.size + 1≤g∧g < wr.heap.size:=fun g e=>h.own.lt g e
 have hs6:=hgrow.size
 rw [World.size_alloc] at hs6
 have ba:Below w5.heap.size w5 (w5.alloc (.cells #[.int .i64 (K.leg x.nd x.l x.s x.r (o.take k) i a t).1] 3)):=(Below.refl _ _).alloc (Nat.le_refl _) _
 have b6:Below wS.heap.size wS w6:=below_own2 (bel (bel h.bw hb) ba) hgrow (fun g e=>by have:=(hlt g e).1;omega)
 have hT6:TBlk w6 wS.heap.size 0 S tv 0:=grow_blk hgrow ((h.blk.below hb).below ba) (fun e=>by have:=(hlt _ e.symm).1;omega)
 obtain ⟨-,-,-,l4,l5,l6,l7⟩:=K.leg_ok hl
 obtain ⟨-,r2,r3,-⟩:=K.reach_ok l4
 obtain ⟨-,-,-,f1,f2⟩:=H.fit_ok l5
 refine ⟨?_,by rw [List.length_append,h.len];rfl,blk_set hT6 2 _,?_,hno,?_,b6.setCell (Nat.le_refl _) _⟩
 ·rw [h.legs,K.legs_ok hi hl,List.append_assoc];rfl
 ·exact ownsRow_setCell_below hown (Nat.lt_succ_self _) _
 ·have:=h.t0
  rw [l6] at l7 ⊢
  omega
set_option maxRecDepth 100000 in
set_option maxHeartbeats 16000000 in
theorem rrun_any (x:C) (V:Option Addr) (vn vc:Nat) (o:List Int) (w:World) (hx:At w x) (hV:Ints w V vn o) (hvc:vn≤vc) (hvn:vn≤100000) :
  Calls Tryz.prog 131 #[.agg #[.int .i64 x.nd,.slice x.A x.n x.c],.agg #[.int .i64 x.s.day,.int .i64 x.s.depot,.int .i64 x.s.start,.int .i64 x.s.end_,.int .i64 x.s.tare,.slice x.s.A x.s.n x.s.c],.slice x.B x.m x.d,.slice V vn vc] w fun e w'=>RetTour w w' (K.run x.nd x.l x.s x.r o) e:=by
 obtain ⟨w1,hw1⟩:∃ w1:World,w1=w.alloc (.cells #[.int .i64 x.nd,.slice x.A x.n x.c] 24):=⟨_,rfl⟩
 obtain ⟨w2,hw2⟩:∃ w2:World,w2=w1.alloc (.cells #[.int .i64 x.s.day,.int .i64 x.s.depot,.int .i64 x.s.start,.int .i64 x.s.end_,.int .i64 x.s.tare,.slice x.s.A x.s.n x.s.c] 63):=⟨_,rfl⟩
 obtain ⟨w3,hw3⟩:∃ w3:World,w3=w2.alloc (.cells #[.int .i64 0,.slice none 0 0,.slice none 0 0,.int .i64 0] 80):=⟨_,rfl⟩
 have z1:w1.heap.size=w.heap.size + 1:=by rw [hw1];exact World.size_alloc _ _
 have z2:w2.heap.size=w.heap.size + 1 + 1:=by rw [hw2,World.size_alloc,z1]
 have z3:w3.heap.size=w.heap.size + 1 + 1 + 1:=by rw [hw3,World.size_alloc,z2]
 have b01:Below w.heap.size w w1:=by rw [hw1];exact (Below.refl _ _).alloc (Nat.le_refl _) _
 have b12:Below w1.heap.size w1 w2:=by rw [hw2];exact (Below.refl _ _).alloc (Nat.le_refl _) _
 have b23:Below w2.heap.size w2 w3:=by rw [hw3];exact (Below.refl _ _).alloc (Nat.le_refl _) _
 have hP:Net w3 w.heap.size x.nd x.A x.n x.c:=by
  have h1:Net w1 w.heap.size x.nd x.A x.n x.c:=by rw [hw1];exact Net.new _ _ _ _ _
  exact (h1.below b12).below b23
 have hS:Shf w3 (w.heap.size + 1) x.s:=by
  have h1:Shf w2 (w.heap.size + 1) x.s:=by rw [←z1,hw2];exact Shf.new _ _
  exact h1.below b23
 have hR:TrBlk w3 (w.heap.size + 1 + 1) (.slice none 0 0) (.slice none 0 0) 0:=by rw [←z2,hw3];exact heap_alloc_new _ _
 have b3:=bel (bel b01 b12) b23
 have p0:=hP.c0
 have p1:=hP.c1
 obtain ⟨s0,s1,s2,s3,s4,s5⟩:=hS.cells
 have Z3:=Lib.hid z3
 rw [hw3,hw2,hw1] at p0 p1 s0 s1 s2 s3 s4 s5
 go_enter Tryz.func131,Tryz.ntmps131
 go_wp2_with fail
 rw [←hw1,←hw2,←hw3]
 clear hw1 hw2 hw3 z1 z2 z3 b01 b12 b23 p0 p1 s0 s1 s2 s3 s4 s5
 refine (rright30_any x V vn vc o _ (hx.below b3) (hV.below b3) (by omega)).mono ?_
 rintro e w4 ⟨rfl,b34⟩
 have hP:=hP.below b34
 have hS:=hS.below b34
 have hR:=hR.below b34 (by rw [Z3.out];omega)
 have b4:=bel b3 b34
 clear b3
 cases hr:K.right x.nd x.l x.s x.r o
 ·have HX:=Lib.hid (show K.run x.nd x.l x.s x.r o=⟨K.Tr.zero,1,0⟩ by unfold K.run;rw [if_pos hr])
  clear hr
  obtain ⟨r0,r1,r2,r3⟩:=hR.cells
  have f0:=hR.free 0
  have f1:=hR.free 1
  have f2:=hR.free 2
  have f3:=hR.free 3
  go_wp2_with fail
  refine bodyPost_ret_by (v:=.tuple #[.agg #[.int .i64 0,.slice none 0 0,.slice none 0 0,.int .i64 0],.int .i64 1,.int .i64 0]) ?_ rfl ?_
  ·obtain ⟨z0,z1,z2,z3⟩:=(hR.set (.slice none 0 0) (.slice none 0 0) 0).cells
   rw [results_cell_tmp2 rfl]
   simp [go_sem,z0,z1,z2,z3]
  ·exact retTour_zero HX.out (below_set4 b4 (by omega) _ _ _ _)
 ·obtain ⟨hne,hld,hdp,hno⟩:=K.right_parts hr
  obtain ⟨hck,hset,hall⟩:=T.load_parts hld
  obtain ⟨-,⟨d0,d1⟩,st0,st1,en1⟩:=K.check_parts hck
  have HSET:=Lib.hid (T.isSetFrom_mem hset)
  have HALL:=Lib.hid hall
  have HNO:=Lib.hid hno
  have HRT:=Lib.hid hr
  have HNE:=Lib.hid hne
  clear hr hne hld hset hall hck hno
  obtain ⟨i0,hi,hz0,hz1,hz2⟩:=info_parts Tryz.info3
  have hrs:w.heap.size + 1 + 1 < w4.heap.size:=by have:=b34.size;have:=Z3.out;omega
  have HLN:=Lib.hid hV.1
  have hlit:(w4.alloc (.cells #[] 3)).ownsRow w4.heap.size 3 1 (.slice (some ⟨w4.heap.size,0,none⟩) 0 0) 0 []:=own_lit (heap_alloc_new w4 (.cells #[] 3)) (Nat.le_refl _)
  have ba4:Below w4.heap.size w4 (w4.alloc (.cells #[] 3)):=(Below.refl _ _).alloc (Nat.le_refl _) _
  go_wp2_with (at_builtin;refine wp_append_rd rfl (.tmp 25) (.tmp 26) 48 rfl w4.heap.size 3 i0 (.int .i64 0) 1 8 Tryz.underlying48 hi hz0 hz1 hz2 rfl (by decide) (.slice (some ⟨w4.heap.size,0,none⟩) 0 0) 0 [] rfl hlit V vn vc (intCells o) rfl (hV.below (bel b4 ba4)).2 (intCells_one o) (by simp only [maxLen];omega) (by omega) (by first | (simp;done) | (simp;omega)) ?_;intro v' w5 hown5 hgrow5 hat5;rw [Nat.zero_add,List.nil_append] at hown5;obtain ⟨SA,sc,rfl,hI5⟩:=own_ints hown5 HLN.out;have hSA:=(fun ad (e:SA=some ad)=>(hown5.lt _ (by rw [e];rfl)));have b45:Below w4.heap.size w4 w5:=below_own2 ba4 hgrow5 (lit_block (Nat.le_refl _));have b5a:Below w5.heap.size w5 (w5.alloc (.cells #[.int .i64 0,.slice SA vn sc,.slice none 0 0,.int .i64 0] 80)):=(Below.refl _ _).alloc (Nat.le_refl _) _;have g1:=((hS.below b45).below b5a).cells.2.1;have g2:=((hS.below b45).below b5a).cells.2.2.1)
  have b5:=bel b4 b45
  have hP:=hP.below b45
  have hS:=hS.below b45
  have hR:=hR.below b45 hrs
  have hrs5:w.heap.size + 1 + 1 < w5.heap.size:=by have:=b45.size;omega
  have hrel0:NRel x o w5 (.slice SA vn sc) 0 (.slice none 0 0) x.s.depot x.s.start [] (w5.alloc (.cells #[.int .i64 0,.slice SA vn sc,.slice none 0 0,.int .i64 0] 80)) :=
   ⟨by simp,rfl,heap_alloc_new w5 _,World.ownsRow_nil _ _ _ _,⟨d0,hdp⟩,⟨st0,by omega⟩,b5a⟩
  clear hown5 hgrow5 hat5 hlit ba4 hi hz0 hz1 hz2 b45 g1 g2 b5a b34
  go_loopw [12,13,14] (fun v12 v13 v14 wr=>∃ (k:Nat) (tv:Value) (a t:Int) (ts:List Int),v12=.int .i64 t∧v13=.int .i64 a∧v14=.int .i64 k∧k≤vn∧NRel x o w5 (.slice SA vn sc) k tv a t ts wr) (fun _ _ v14 _=>vn - (intOf v14).toNat)
  case atStart=>exact ⟨0,_,_,_,[],rfl,rfl,rfl,by omega,hrel0⟩
  case round =>
   clear hrel0
   obtain ⟨k,tv,a,t,ts,rfl,rfl,rfl,hk,hrr⟩:=hrel
   have hbr:=hrr.bw
   have hbw:=bel b5 hbr
   have hSr:=hS.below hbr
   have hPr:=hP.below hbr
   by_cases hlt:k < vn
   ·obtain ⟨adv,i,rfl,hi,ciw⟩:=hV.at_ hlt
    have ci:=(hbw.cell (cell_lt ciw)).trans ciw
    have him:=List.mem_of_getElem? hi
    obtain ⟨hi0,hi1⟩:=HSET.out i him
    obtain ⟨j,rfl⟩:∃ j:Nat,i=(j:Int):=⟨i.toNat,by omega⟩
    obtain ⟨q,hq⟩:∃ q,x.r[j]? = some q:=⟨_,List.getElem?_eq_getElem (by omega)⟩
    obtain ⟨⟨n0,-⟩,⟨e0,e1⟩,-⟩:=K.right_req (HALL.out q (List.mem_of_getElem? hq))
    have hnq:=HNO.out _ him
    rw [K.req_get hq] at hnq
    have HRQ:=Lib.hid (K.req_get hq)
    have HI:=Lib.hid hi
    have HRR:=Lib.hid hrr
    have ha0:=hrr.a0
    have ht0:=hrr.t0
    have him:j < x.m:=by rw [hx.reqs.1];omega
    have j0:(0:Int)≤(j:Int):=by omega
    have j1:(j:Int) < (x.m:Int):=by omega
    obtain ⟨adq,q',hB,hgq,-,y0,-,-,y3,-⟩:=hx.reqs.at_ him
    rw [hq] at hgq
    injection hgq with hgq
    subst hgq
    obtain ⟨lb,hlb⟩:∃ lb,lb=(K.leg x.nd x.l x.s x.r (o.take k) j a t).1:=⟨_,rfl⟩
    obtain ⟨le,hle⟩:∃ le,le=(K.leg x.nd x.l x.s x.r (o.take k) j a t).2:=⟨_,rfl⟩
    have hAr:=hx.below hbw
    have hIk:∀ w',Below wr.heap.size wr w'→Ints w' (some adv) k (o.take k):=fun w' h=>(hV.below (bel hbw h)).take (by omega)
    have CL:=fun z:Beh wr=>leg_any x (some adv) k vc (o.take k) j q a t z.val (hAr.below z.property) (hIk _ z.property) (by omega) HNE.out ha0 hq ⟨n0,hnq⟩ ht0 ⟨e0,e1⟩
    unfold Leg at CL
    simp only [←hlb,←hle,hB] at CL
    rw [hB]
    clear hB
    obtain ⟨s0,s1,s2,s3,s4,s5⟩:=hSr.cells
    have g0:=Beh.cell hPr.c0
    have g1:=Beh.cell hPr.c1
    have f0:=Beh.cell s0
    have f1:=Beh.cell s1
    have f2:=Beh.cell s2
    have f3:=Beh.cell s3
    have f4:=Beh.cell s4
    have f5:=Beh.cell s5
    have fi:=Beh.cell ci
    have k0:(0:Int)≤(k:Int):=by omega
    have k1:(k:Int)≤(vc:Int):=by omega
    have k2:(k:Int) < (vn:Int):=by omega
    have HLB:=Lib.hid hlb
    have HLE:=Lib.hid hle
    clear hi him hrr hlb hle s0 s1 s2 s3 s4 s5
    go_wp2_with fail
    refine reg_beh (by kernel_rfl) (by kernel_rfl) ?_
    repeat (go_big_quiet_step ((go_at_call 180;exact Beh.calls (CL _))))
    refine wpQuiet_nil ?_
    rintro w6 ⟨⟨_,b56⟩,rfl⟩
    have hb6w:=bel hbw b56
    have hR6:=hR.below (bel hbr b56) hrs5
    clear CL g0 g1 f0 f1 f2 f3 f4 f5 fi
    cases h0:(le == 0)
    ·have h0':(le != 0)=true:=by simp [bne,h0]
     have hne0:le ≠ 0:=by simpa using h0
     have HX:=Lib.hid (show K.run x.nd x.l x.s x.r o=⟨K.Tr.zero,le,k⟩ by
      rw [K.run_legs HRT.out HRR.out.legs,K.legs_no HI.out (by rw [←HLE.out];exact hne0),←HLE.out,if_pos hne0]
      simp [HRR.out.len])
     obtain ⟨r0,r1,r2,r3⟩:=hR6.cells
     have f0:=hR6.free 0
     have f1:=hR6.free 1
     have f2:=hR6.free 2
     have f3:=hR6.free 3
     clear h0 hne0
     go_wp2_with fail
     refine bodyPost_ret_by (v:=.tuple #[.agg #[.int .i64 0,.slice none 0 0,.slice none 0 0,.int .i64 0],.int .i64 le,.int .i64 k]) ?_ rfl ?_
     ·obtain ⟨z0,z1,z2,z3⟩:=(hR6.set (.slice none 0 0) (.slice none 0 0) 0).cells
      rw [results_cell_tmp2 rfl]
      simp [go_sem,z0,z1,z2,z3]
     ·exact retTour_zero HX.out (below_set4 hb6w (by omega) _ _ _ _)
    ·have h0':(le != 0)=false:=by simp [bne,h0]
     have hee:le=0:=by simpa using h0
     have HRE:=Lib.hid (show (0:Int)=(K.leg x.nd x.l x.s x.r (List.take k o) j a t).2 by rw [←hee];exact HLE.out)
     have hT6:=HRR.out.blk.below b56
     have u2:=hT6.cells.2.2.1
     have hown6:(w6.alloc (.cells #[.int .i64 lb] 3)).ownsRow (w5.heap.size + 1) 3 1 tv k (intCells ts):=(own_below HRR.out.own b56).alloc _
     have ba6:Below w6.heap.size w6 (w6.alloc (.cells #[.int .i64 lb] 3)):=(Below.refl _ _).alloc (Nat.le_refl _) _
     have hs5:=b56.size
     have hs4:=hbr.size
     have hbL:=HRR.out.own.lt
     have hlk:=K.leg_ok (nd:=x.nd) (l:=x.l) (s:=x.s) (r:=x.r) (v:=List.take k o) (i:=j) (a:=a) (t:=t) HRE.out.symm
     have hlb2:0≤lb∧lb≤1000000:=by
      obtain ⟨-,-,-,l4,l5,l6,l7⟩:=hlk
      obtain ⟨-,-,-,f1,f2⟩:=H.fit_ok l5
      obtain ⟨-,r2,r3,-⟩:=K.reach_ok l4
      have h9:=HLB.out
      rw [l6] at h9 l7
      rw [HRQ.out] at *
      omega
     obtain ⟨lb0,lb1⟩:=hlb2
     have hwrap:IntKind.i64.wrap (lb + q.service)=lb + q.service:=IntWalk.i64_in _ (by omega)
     have hs6:w5.heap.size + 1≤(w6.alloc (.cells #[.int .i64 lb] 3)).heap.size:=by rw [World.size_alloc];omega
     clear h0 hlk
     subst hee
     go_wp2_with (at_builtin;refine app_int rfl (.tmp 61) (.tmp 63) rfl (w5.heap.size + 1) tv k ts rfl hown6 w6.heap.size lb rfl (heap_alloc_at _ _ _ rfl) (by omega) hs6 ?_;intro tv' w7 hown7 hgrow7 hat7;obtain ⟨A7,c7,rfl,-,-⟩:=own_form hown7;have hT7:=grow_blk hgrow7 (hT6.below ba6) (fun e=>(by have:=(hbL _ e.symm).1;omega));have v2:=blk_free hT7 2;have v2c:=blk_cell hT7 2 _ rfl;have b7:Below w5.heap.size w5 w7:=below_own2 (bel (bel hbr b56) ba6) hgrow7 (fun g e=>(by have:=(hbL g e).1;omega));have b8:Below w.heap.size w (w7.setCell ⟨w5.heap.size,2,none⟩ (.slice A7 (k + 1) c7)):=bel b5 (b7.setCell (Nat.le_refl _) _);have yy0:=(b8.cell (cell_lt y0)).trans y0;have yy3:=(b8.cell (cell_lt y3)).trans y3;have ci8:=(b8.cell (cell_lt ciw)).trans ciw)
     have hN:=HRR.out.next HI.out HLB.out HRE.out rfl b56 hown7 hgrow7 (by rw [HRQ.out];exact ⟨n0,hnq⟩) (by rw [HRQ.out];exact e0)
     rw [HRQ.out] at hN
     go_roundw
     case rel=>exact ⟨k + 1,.slice A7 (k + 1) c7,_,_,ts ++ [lb],rfl,rfl,by go_num,by omega,hN⟩
     case measure=>simp [intOf];omega
   ·have hkv:vn=k:=by omega
    subst hkv
    have hto:o.take vn=o:=List.take_of_length_le (by rw [←hV.1];omega)
    have hdo:o.drop vn=[]:=List.drop_eq_nil_of_le (by rw [←hV.1];omega)
    have hl0:=hrr.legs
    rw [hto,hdo] at hl0
    have hl1:K.legs x.nd x.l x.s x.r [] x.s.depot x.s.start o=⟨ts,a,t,0⟩:=by rw [hl0];simp [K.legs]
    have hRn:=K.run_legs HRT.out hl1
    simp only [ne_eq,not_true_eq_false,if_false] at hRn
    have HRN:=Lib.hid hRn
    obtain ⟨A7,c7,rfl,hI7⟩:=own_ints hrr.own hrr.len.symm
    have hA7:∀ ad,A7=some ad→w5.heap.size + 1≤ad.block:=fun ad e=>(hrr.own.lt _ (by rw [e];rfl)).1
    have hblk:=hrr.blk
    have ha0:=hrr.a0
    have ht0:=hrr.t0
    clear hrr hto hdo hl0 hl1 hRn
    obtain ⟨dn,hdn⟩:∃ dn:Nat,x.s.depot=(dn:Int):=⟨x.s.depot.toNat,by omega⟩
    obtain ⟨s0,s1,s2,s3,s4,s5⟩:=hSr.cells
    have g0:=Beh.cell hPr.c0
    have g1:=Beh.cell hPr.c1
    have f0:=Beh.cell s0
    have f1:=Beh.cell s1
    have f2:=Beh.cell s2
    have f3:=Beh.cell s3
    have f4:=Beh.cell s4
    have f5:=Beh.cell s5
    have hA4:=hx.below hbw
    have hV4:=hV.below hbw
    obtain ⟨wt,hwt⟩:∃ wt,wt=T.weight x.s x.r o:=⟨_,rfl⟩
    obtain ⟨y,hy⟩:∃ y,y=K.way x.nd x.l a wt x.s.depot:=⟨_,rfl⟩
    have hdn2:(dn:Int) < x.nd:=by omega
    have CW:=fun j:Beh wr=>rweight_any x.s x.B x.m x.d x.r V vn vc o j.val ((hA4.below j.property).rooms) hx.b2 ((hA4.below j.property).reqs) hx.b3 hx.b4 (hV4.below j.property) (by omega)
    have CY:=fun j:Beh wr=>rway_any x.nd x.A x.n x.c x.l a dn wt j.val ((hA4.below j.property).net) hx.b1 HNE.out ha0 hdn2
    simp only [←hwt] at CW
    simp only [←hdn,←hy] at CY
    have hyb:=K.way_bd x.nd x.l a wt x.s.depot
    rw [←hy] at hyb
    obtain ⟨hy0,hy1⟩:=hyb
    have HY:=Lib.hid (show K.way x.nd x.l a (T.weight x.s x.r o) x.s.depot=y by rw [←hwt,hy])
    clear hy hwt hdn s0 s1 s2 s3 s4 s5
    go_wp2_with fail
    refine reg_beh (by kernel_rfl) (by kernel_rfl) ?_
    repeat (go_big_quiet_step ((first | (go_at_call 146;exact Beh.calls (CW _)) | (go_at_call 181;exact Beh.calls (CY _)))))
    refine wpQuiet_nil ?_
    rintro w6 ⟨⟨_,b56⟩,rfl⟩
    clear CW CY g0 g1 f0 f1 f2 f3 f4 f5 hA4 hV4
    have hb6w:=bel hbw b56
    have b6:=bel hbr b56
    have hR6:=hR.below b6 hrs5
    have hT6:=hblk.below b56
    obtain ⟨s0,s1,s2,s3,s4,s5⟩:=(hSr.below b56).cells
    obtain ⟨r0,r1,r2,r3⟩:=hR6.cells
    have f0:=hR6.free 0
    have f1:=hR6.free 1
    have f2:=hR6.free 2
    have f3:=hR6.free 3
    cases h1:decide (y < 0)
    rotate_left
    ·have HX:=Lib.hid (show K.run x.nd x.l x.s x.r o=⟨K.Tr.zero,4,vn⟩ by
      have hr:K.reach x.nd x.l x.s x.r o a t x.s.depot=(0,4):=by unfold K.reach;rw [HY.out,if_pos (by have h1:=of_decide_eq_true h1;omega)]
      rw [HRN.out,hr,if_pos (by decide),←HLN.out])
     go_wp2_with fail
     refine bodyPost_ret_by (v:=.tuple #[.agg #[.int .i64 0,.slice none 0 0,.slice none 0 0,.int .i64 0],.int .i64 4,.int .i64 vn]) ?_ rfl ?_
     ·obtain ⟨z0,z1,z2,z3⟩:=(hR6.set (.slice none 0 0) (.slice none 0 0) 0).cells
      rw [results_cell_tmp2 rfl]
      simp [go_sem,z0,z1,z2,z3]
     ·exact retTour_zero HX.out (below_set4 hb6w (by omega) _ _ _ _)
    have hyp:¬ y < 0:=of_decide_eq_false h1
    have hwrap:IntKind.i64.wrap (t + y)=t + y:=IntWalk.i64_in _ (by omega)
    cases h2:decide (x.s.end_ < t + y)
    rotate_left
    ·have HX:=Lib.hid (show K.run x.nd x.l x.s x.r o=⟨K.Tr.zero,18,vn⟩ by
      have hr:K.reach x.nd x.l x.s x.r o a t x.s.depot=(0,18):=by unfold K.reach;rw [HY.out,if_neg (by omega),if_pos (of_decide_eq_true h2)]
      rw [HRN.out,hr,if_pos (by decide),←HLN.out])
     go_wp2_with fail
     refine bodyPost_ret_by (v:=.tuple #[.agg #[.int .i64 0,.slice none 0 0,.slice none 0 0,.int .i64 0],.int .i64 18,.int .i64 vn]) ?_ rfl ?_
     ·obtain ⟨z0,z1,z2,z3⟩:=(hR6.set (.slice none 0 0) (.slice none 0 0) 0).cells
      rw [results_cell_tmp2 rfl]
      simp [go_sem,z0,z1,z2,z3]
     ·exact retTour_zero HX.out (below_set4 hb6w (by omega) _ _ _ _)
    have h2':¬ x.s.end_ < t + y:=of_decide_eq_false h2
    have HX:=Lib.hid (show K.run x.nd x.l x.s x.r o=⟨⟨o,ts,t + y⟩,0,o.length⟩ by
     have hr:K.reach x.nd x.l x.s x.r o a t x.s.depot=(t + y,0):=by unfold K.reach;rw [HY.out,if_neg (by omega),if_neg h2']
     rw [HRN.out,hr];simp)
    clear hyp h2' r0 r1 r2 r3 f0 f1 f2 f3
    have v3:=blk_free hT6 3
    have v3c:=blk_cell hT6 3 _ rfl
    have b7:Below w5.heap.size w5 (w6.setCell ⟨w5.heap.size,3,none⟩ (.int .i64 (t + y))):=b6.setCell (Nat.le_refl _) _
    have hT7:TBlk (w6.setCell ⟨w5.heap.size,3,none⟩ (.int .i64 (t + y))) w5.heap.size 0 (.slice SA vn sc) (.slice A7 vn c7) (t + y):=blk_set hT6 3 _
    obtain ⟨y0,y1,y2,y3⟩:=hT7.cells
    have hR7:=hR.below b7 hrs5
    obtain ⟨r0,r1,r2,r3⟩:=hR7.cells
    have f0:=hR7.free 0
    have f1:=hR7.free 1
    have f2:=hR7.free 2
    have f3:=hR7.free 3
    have hA6:Ints (w6.setCell ⟨w5.heap.size,3,none⟩ (.int .i64 (t + y))) SA vn o:=(hI5.below b6).set _ (fun ad e=>by have:=hSA ad e;omega)
    have hB6:Ints (w6.setCell ⟨w5.heap.size,3,none⟩ (.int .i64 (t + y))) A7 vn ts:=(hI7.below b56).set _ (fun ad e=>by have:=hA7 ad e;omega)
    go_wp2_with fail
    refine bodyPost_ret_by (v:=.tuple #[.agg #[.int .i64 0,.slice SA vn sc,.slice A7 vn c7,.int .i64 (t + y)],.int .i64 0,.int .i64 vn]) ?_ rfl ?_
    ·obtain ⟨z0,z1,z2,z3⟩:=(hR7.set (.slice SA vn sc) (.slice A7 vn c7) (t + y)).cells
     rw [results_cell_tmp2 rfl]
     simp [go_sem,z0,z1,z2,z3]
    ·exact retTour_mk HX.out rfl (by rw [HLN.out]) (bel b5 b7) hA6 hB6 (fun ad e=>by have:=hSA ad e;omega) (fun ad e=>by have:=hA7 ad e;omega) (by omega) rfl
end Go.Proofs.YtippdjmpkafifaaGreat
