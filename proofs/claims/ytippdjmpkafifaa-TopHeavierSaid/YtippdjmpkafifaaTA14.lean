import Derived.Test.YtippdjmpkafifaaTA13
import Derived.Deep.Slices
import Derived.Deep.Fields
import Derived.ChangeSame
import Derived.ProofKit
import Derived.OpenShut
import Derived.Test.YtippdjmpkafifaaTA1
import Derived.Test.YtippdjmpkafifaaTA4
namespace Go.Proofs.Ytippdjmpkafifaa
open Go.RowKit
namespace K
theorem iota_snoc (k:Nat):iota (k + 1)=iota k ++ [(k:Int)]:=by
 unfold iota
 rw [List.range_succ,List.map_append]
 rfl
theorem iota_len (k:Nat):(iota k).length=k:=by unfold iota;rw [List.length_map,List.length_range]
def others (but:Int) (k:Nat):List Int:=(iota k).filter fun i=>i != but
theorem others_same {but:Int} {k:Nat} (h:(k:Int)=but):others but (k + 1)=others but k:=by
 unfold others
 rw [iota_snoc,List.filter_append,h]
 simp
theorem others_more {but:Int} {k:Nat} (h:(k:Int) ≠ but):others but (k + 1)=others but k ++ [(k:Int)]:=by
 unfold others
 rw [iota_snoc,List.filter_append]
 simp [h]
theorem others_sub (but:Int) (k:Nat):(others but k).Sublist (iota k):=List.filter_sublist
theorem others_len (but:Int) (k:Nat):(others but k).length≤k:=by have:=(others_sub but k).length_le;rwa [iota_len] at this
end K
theorem top_ok {x:Cs} (h:TopFew x 4) {s:S} (hs:s ∈ x.ss):K.ok31 x.nd x.l s x.r (K.iota x.r.length)=true:=by
 obtain ⟨g1,g2,g3⟩:=h.s s hs
 have hr:x.r.any (fun q=>!T.right q)=false:=by
  rw [List.any_eq_false]
  intro q hq
  rw [(h.r q hq).2.1]
  decide
 have hm:=h.m
 have hgo:K.setGo x.nd x.r (-1) (K.iota x.r.length)=true:=(K.setGo_iff _ _).2 ⟨fun k hk=>by
  obtain ⟨k0,k1⟩:=K.mem_iota.1 hk
  obtain ⟨q,hq⟩:∃ q,x.r[k.toNat]? = some q:=⟨_,List.getElem?_eq_getElem (by omega)⟩
  have e:K.req x.r k=q:=by unfold K.req;rw [hq];rfl
  rw [e]
  exact ⟨k0,k1,by omega,(h.r q (List.mem_of_getElem? hq)).2.2⟩,K.iota_sorted _⟩
 unfold K.ok31
 rw [h.net,g2,hr,hgo,K.iota_len]
 simp only [Bool.and_eq_true,beq_iff_eq,decide_eq_true_eq]
 exact ⟨trivial,trivial,g3,by decide,by omega,trivial⟩
theorem blk_ltA {w:World} {g:Nat} {o:Obj} (h:w.heap[g]? = some o):g < w.heap.size:=by
 rcases Nat.lt_or_ge g w.heap.size with h1 | h1
 ·exact h1
 ·rw [Array.getElem?_eq_none h1] at h;cases h
theorem off_step1 {v v' u:Value} {n:Nat} (hoff:∀ g,v.ownBlock=some g→u.ownBlock ≠ some g) (hat:v'.ownBlock=v.ownBlock∨v'.ownBlock=some n) (hu:∀ g,u.ownBlock=some g→g < n):∀ g,v'.ownBlock=some g→u.ownBlock ≠ some g:=fun g e1 e2=>by
 rcases hat with h | h
 ·rw [h] at e1;exact hoff g e1 e2
 ·rw [h] at e1
  injection e1 with e1
  have:=hu g e2
  omega
theorem off_step2 {v u u':Value} {n:Nat} (hoff:∀ g,v.ownBlock=some g→u.ownBlock ≠ some g) (hat:u'.ownBlock=u.ownBlock∨u'.ownBlock=some n) (hv:∀ g,v.ownBlock=some g→g < n):∀ g,v.ownBlock=some g→u'.ownBlock ≠ some g:=fun g e1 e2=>by
 rcases hat with h | h
 ·rw [h] at e2;exact hoff g e1 e2
 ·rw [h] at e2
  injection e2 with e2
  have:=hv g e1
  omega
theorem T.few_n {s:S} {r:List Q} {m:Nat} (h:T.few s r m=true):s.n≤6:=by
 simp only [T.few,Bool.and_eq_true,decide_eq_true_eq] at h
 exact h.2.1
theorem At.shift {w:World} {x:C} (h:At w x) (s':S) (h1:s'.A=x.s.A) (h2:s'.n=x.s.n) (h3:s'.l=x.s.l):At w ⟨x.nd,x.A,x.n,x.c,x.l,s',x.B,x.m,x.d,x.r⟩ :=
 ⟨h.net,by rw [show (⟨x.nd,x.A,x.n,x.c,x.l,s',x.B,x.m,x.d,x.r⟩:C).s=s' from rfl,h1,h2,h3];exact h.rooms,h.reqs,h.b1,by rw [show (⟨x.nd,x.A,x.n,x.c,x.l,s',x.B,x.m,x.d,x.r⟩:C).s=s' from rfl,h2];exact h.b2,h.b3,h.b4⟩
theorem blk_other1 {w:World} {g k i:Nat} (h:g ≠ k) {v:Value}:(w.setCell ⟨k,i,none⟩ v).heap[g]? = w.heap[g]?:=Below.heap_setCell w ⟨k,i,none⟩ v g h
theorem blk_other6 {w:World} {g k:Nat} {o:Obj} (h:g ≠ k) (ho:w.heap[g]? = some o) (v0 v1 v2 v3 v4 v5:Value):((((((w.setCell ⟨k,0,none⟩ v0).setCell ⟨k,1,none⟩ v1).setCell ⟨k,2,none⟩ v2).setCell ⟨k,3,none⟩ v3).setCell ⟨k,4,none⟩ v4).setCell ⟨k,5,none⟩ v5).heap[g]? = some o:=by
 rw [blk_other1 h,blk_other1 h,blk_other1 h,blk_other1 h,blk_other1 h,blk_other1 h]
 exact ho
structure Heavier (a b c d:Int) (e f g h:Int) (t2:Int):Prop where
 one:f=0→e=0∧a≤b
 two:e=0→g=0∧c≤a
 three:h=0→e=0∧d=a
 four:e=0→a≤t2→h=0
set_option maxRecDepth 100000 in
set_option maxHeartbeats 32000000 in
theorem heavier_any (x:C) (kilos minutes but:Int) (w:World) (hR:Roads w x.A x.n x.l) (hI:Ints w x.s.A x.s.n x.s.l) (hQ:Reqs w x.B x.m x.r) (hwk:(Lit.int .u16 kilos).wf=true) (hwm:(Lit.int .u8 minutes).wf=true) :
  Calls Try.prog 7 #[.agg #[.int .i64 x.nd,.slice x.A x.n x.c],.agg #[.int .i64 x.s.day,.int .i64 x.s.depot,.int .i64 x.s.start,.int .i64 x.s.end_,.int .i64 x.s.tare,.slice x.s.A x.s.n x.s.c],.slice x.B x.m x.d,.int .u16 kilos,.int .u8 minutes,.int .i64 but] w fun e w'=>e=.returned (.bool true)∧Below w.heap.size w w':=by
 have hk:0≤kilos∧kilos≤65535:=by
  simp [Lit.wf] at hwk
  exact hwk
 have hm:0≤minutes∧minutes≤255:=by
  simp [Lit.wf] at hwm
  exact hwm
 clear hwk hwm
 obtain ⟨w2,hw2⟩:∃ w2:World,w2=(w.alloc (.cells #[.int .i64 x.nd,.slice x.A x.n x.c] 24)).alloc (.cells #[.int .i64 x.s.day,.int .i64 x.s.depot,.int .i64 x.s.start,.int .i64 x.s.end_,.int .i64 x.s.tare,.slice x.s.A x.s.n x.s.c] 43):=⟨_,rfl⟩
 obtain ⟨g0,hg0⟩:∃ g,g=w.heap.size:=⟨_,rfl⟩
 obtain ⟨g1,hg1⟩:∃ g,g=w.heap.size + 1:=⟨_,rfl⟩
 have b2:Below w.heap.size w w2:=by rw [hw2];exact bel (bel_alc _ _) (bel_alc _ _)
 have hB0:w2.heap[g0]? = some (.cells #[.int .i64 x.nd,.slice x.A x.n x.c] 24 (0,0)):=by rw [hw2,hg0];exact blk_alloc (heap_alloc_new _ _) _
 have hB1:w2.heap[g1]? = some (.cells #[.int .i64 x.s.day,.int .i64 x.s.depot,.int .i64 x.s.start,.int .i64 x.s.end_,.int .i64 x.s.tare,.slice x.s.A x.s.n x.s.c] 43 (0,0)):=by rw [hw2,hg1];exact heap_alloc_at _ _ _ (World.size_alloc _ _).symm
 have hgw:g0 < w2.heap.size∧g1 < w2.heap.size:=⟨blk_ltA hB0,blk_ltA hB1⟩
 have HRN:=Lib.hid hQ.1
 go_enter Try.func7,Try.ntmps7
 go_wp2_with fail
 rw [←hw2,←hg1,←hg0]
 clear hw2 hg0 hg1
 refine (wholeLive_any _).mono ?_
 rintro e w3 ⟨rfl,b3⟩
 have hb3:=bel b2 b3
 have hB03:=blk_below b3 hB0
 have hB13:=blk_below b3 hB1
 have p0:=blk_cell hB03 0 _ rfl
 have p1:=blk_cell hB03 1 _ rfl
 have s0:=blk_cell hB13 0 _ rfl
 have s1:=blk_cell hB13 1 _ rfl
 have s2:=blk_cell hB13 2 _ rfl
 have s3:=blk_cell hB13 3 _ rfl
 have s4:=blk_cell hB13 4 _ rfl
 have s5:=blk_cell hB13 5 _ rfl
 obtain ⟨w4,hw4⟩:∃ w4:World,w4=w3.alloc (.cells #[.int .i64 x.s.day,.int .i64 x.s.depot,.int .i64 x.s.start,.int .i64 x.s.end_,.int .i64 x.s.tare,.slice x.s.A x.s.n x.s.c] 43):=⟨_,rfl⟩
 have b4:Below w3.heap.size w3 w4:=by rw [hw4];exact bel_alc _ _
 have hb4:=bel hb3 b4
 obtain ⟨xs,hxs⟩:∃ xs:Cs,xs=⟨x.nd,x.A,x.n,x.c,x.l,some ⟨w3.heap.size,0,none⟩,1,1,[x.s],x.B,x.m,x.d,x.r⟩:=⟨_,rfl⟩
 have hSS:Shifts w4 (some ⟨w3.heap.size,0,none⟩) 1 [x.s]:=⟨⟨rfl,by rw [hw4];exact Rd.of_block (cs:=([x.s].flatMap S.cells).toArray) (heap_alloc_new _ _) 6 1 rfl⟩,fun s hs=>by rw [List.mem_singleton.1 hs];exact hI.below hb4⟩
 have CF:=wholeFew_any ⟨x.nd,x.A,x.n,x.c,x.l,some ⟨w3.heap.size,0,none⟩,1,1,[x.s],x.B,x.m,x.d,x.r⟩ 4 (by decide) w4 (Lst.below hR hb4) hSS (hQ.below hb4)
 obtain ⟨zf,hzf⟩:∃ z,z=K.topFew x.nd x.n x.l [x.s] x.r 4:=⟨_,rfl⟩
 rw [←hzf,show ((4:Nat):Int)=4 from rfl] at CF
 have HZF:=Lib.hid hzf
 clear hzf hxs
 go_wp2_with fail
 rw [←hw4]
 refine CF.mono ?_
 rintro e w5 ⟨rfl,b5⟩
 have hb5:=bel hb4 b5
 have b25:=bel b3 (bel b4 b5)
 clear hw4 CF hSS p0 p1 s0 s1 s2 s3 s4 s5
 cases zf
 ·go_wp2_with fail
  go_ret
  exact ⟨rfl,hb5⟩
 have HF:=Lib.hid (topFew_iff (x:=⟨x.nd,x.A,x.n,x.c,x.l,some ⟨w3.heap.size,0,none⟩,1,1,[x.s],x.B,x.m,x.d,x.r⟩) HZF.out.symm)
 have hm4:x.m≤4:=by rw [HRN.out];exact HF.out.m
 obtain ⟨w7,hw7⟩:∃ w7:World,w7=(w5.alloc (.cells #[] 3)).alloc (.cells #[] 3):=⟨_,rfl⟩
 obtain ⟨g4,hg4⟩:∃ g,g=w5.heap.size:=⟨_,rfl⟩
 obtain ⟨g5,hg5⟩:∃ g,g=w5.heap.size + 1:=⟨_,rfl⟩
 have b7:Below w5.heap.size w5 w7:=by rw [hw7];exact bel (bel_alc _ _) (bel_alc _ _)
 have hO4:w7.ownsRow w5.heap.size 3 1 (.slice (some ⟨g4,0,none⟩) 0 0) 0 (intCells (K.iota 0)):=own_lit (by rw [hw7,hg4];exact blk_alloc (heap_alloc_new _ _) _) (by omega)
 have hO5:w7.ownsRow w5.heap.size 3 1 (.slice (some ⟨g5,0,none⟩) 0 0) (K.others but 0).length (intCells (K.others but 0)):=own_lit (by rw [hw7,hg5];exact heap_alloc_at _ _ _ (World.size_alloc _ _).symm) (by omega)
 have hne:g4 ≠ g5:=by omega
 clear HZF
 go_upto_region 6 with fail
 rw [←hw7,←hg5,←hg4]
 clear hw7 hg5 hg4
 go_wp2_with fail
 go_loopw [14,15,16] (fun v14 v15 v16 wr=>∃ k:Nat,v16=.int .i64 (k:Int)∧k≤x.m∧wr.ownsRow w5.heap.size 3 1 v14 k (intCells (K.iota k))∧wr.ownsRow w5.heap.size 3 1 v15 (K.others but k).length (intCells (K.others but k))∧(∀ g,v14.ownBlock=some g→v15.ownBlock ≠ some g)∧Below w5.heap.size w5 wr) (fun _ _ v16 _=>x.m - (intOf v16).toNat)
 case atStart=>exact ⟨0,rfl,Nat.zero_le _,hO4,hO5,fun g e1 e2=>by
  injection e1 with e1
  injection e2 with e2
  dsimp only at e1 e2
  omega,b7⟩
 case round =>
  clear hO4 hO5
  obtain ⟨k,rfl,hkm,hown,hown2,hoff,hbr⟩:=hrel
  by_cases hlt:k < x.m
  ·have k0:(0:Int)≤(k:Int):=by omega
   have k1:(k:Int) < (x.m:Int):=by omega
   have hd:decide ((k:Int) < (x.m:Int))=true:=decide_eq_true k1
   have hd2:decide (k < x.m)=true:=decide_eq_true hlt
   obtain ⟨w8,hw8⟩:∃ w8:World,w8=wr.alloc (.cells #[.int .i64 (k:Int)] 3):=⟨_,rfl⟩
   obtain ⟨g8,hg8⟩:∃ g,g=wr.heap.size:=⟨_,rfl⟩
   have b8:Below wr.heap.size wr w8:=by rw [hw8];exact bel_alc _ _
   have hL8:w8.heap[g8]? = some (.cells #[.int .i64 (k:Int)] 3 (0,0)):=by rw [hw8,hg8];exact heap_alloc_new _ _
   have hown8:=own_below hown b8
   have hown28:=own_below hown2 b8
   have hb8:=bel hbr b8
   have hz8:=hb8.size
   have hk9:k≤1000000:=by omega
   obtain ⟨zb,hzb⟩:∃ z,z=((k:Int) != but):=⟨_,rfl⟩
   have HZB:=Lib.hid hzb
   have f1:=hzb.symm
   clear hzb
   go_upto_region 10 with (first
    | (at_builtin;rw [←hw8,←hg8];refine app_int rfl _ _ rfl w5.heap.size _ k (K.iota k) rfl hown8 g8 (k:Int) rfl hL8 hk9 hz8 ?_;intro v6 w6 hown6 hgr6 hat6)
    | fail)
   have hb6:Below w5.heap.size w5 w6:=below_own2 hb8 hgr6 (fun g e=>(own_in hown8 g e).1)
   have hown26:=own_keep hown28 hgr6 (fun g e e2=>hoff g e2.symm e)
   have hoff6:=off_step1 hoff hat6 (fun g e=>(own_in hown28 g e).2)
   rw [←K.iota_snoc] at hown6
   clear hown8 hown28 hown hown2 hgr6 hat6 hw8 hg8 hL8
   have hz6:=hb6.size
   cases zb
   ·have he:(k:Int)=but:=by
     have h9:=HZB.out
     simpa using h9.symm
    have hown7:=hown26
    rw [←K.others_same he] at hown7
    clear he
    go_wp2_with fail
    go_roundw
    case rel=>(go_light;exact ⟨k + 1,by go_num,hlt,hown6,hown7,hoff6,hb6⟩)
    case measure=>(go_light;simp [intOf];omega)
   ·have he:(k:Int) ≠ but:=by
     have h9:=HZB.out
     simpa using h9.symm
    have hl9:(K.others but k).length≤1000000:=by have:=K.others_len but k;omega
    have HM:=Lib.hid (K.others_more he)
    clear he
    obtain ⟨w9,hw9⟩:∃ w9:World,w9=w6.alloc (.cells #[.int .i64 (k:Int)] 3):=⟨_,rfl⟩
    obtain ⟨g9,hg9⟩:∃ g,g=w6.heap.size:=⟨_,rfl⟩
    have b9:Below w6.heap.size w6 w9:=by rw [hw9];exact bel_alc _ _
    have hL9:w9.heap[g9]? = some (.cells #[.int .i64 (k:Int)] 3 (0,0)):=by rw [hw9,hg9];exact heap_alloc_new _ _
    have hown9:=own_below hown6 b9
    have hown29:=own_below hown26 b9
    have hb9:=bel hb6 b9
    have hz9:=hb9.size
    go_wp2_with (first
     | (at_builtin;rw [←hw9,←hg9];refine app_int rfl _ _ rfl w5.heap.size _ _ (K.others but k) rfl hown29 g9 (k:Int) rfl hL9 hl9 hz9 ?_;intro v7 w10 hown10 hgr10 hat10)
     | fail)
    have hb10:Below w5.heap.size w5 w10:=below_own2 hb9 hgr10 (fun g e=>(own_in hown29 g e).1)
    have hown11:=own_keep hown9 hgr10 (fun g e e2=>hoff6 g e e2.symm)
    have hoff7:=off_step2 hoff6 hat10 (fun g e=>(own_in hown9 g e).2)
    have hown12:w10.ownsRow w5.heap.size 3 1 v7 (K.others but (k + 1)).length (intCells (K.others but (k + 1))):=by
     rw [HM.out,List.length_append,List.length_singleton]
     exact hown10
    clear hown29 hown9 hown10 hgr10 hat10 hw9 hg9 hL9
    go_roundw
    case rel=>(go_light;exact ⟨k + 1,by go_num,hlt,hown11,hown12,hoff7,hb10⟩)
    case measure=>(go_light;simp [intOf];omega)
  ·obtain rfl:k=x.m:=by omega
   have hd:decide ((x.m:Int) < (x.m:Int))=false:=decide_eq_false (by omega)
   have hd2:decide (x.m < x.m)=false:=decide_eq_false (by omega)
   obtain ⟨A4,c4,rfl,hR4⟩:=own_ints hown (K.iota_len _).symm
   obtain ⟨A5,c5,rfl,hR5⟩:=own_ints hown2 rfl
   have hc4:=own_capP hown
   have hc5:=own_capP hown2
   obtain ⟨n5,hn5⟩:∃ n,n=(K.others but x.m).length:=⟨_,rfl⟩
   rw [←hn5] at hR5 hc5 ⊢
   have hn59:n5≤4:=by have:=K.others_len but x.m;omega
   clear hown hown2 hoff hn5 hd hd2 hlt hkm
   have hck:=(HF.out.s x.s List.mem_cons_self).2.1
   obtain ⟨-,-,st0,st1,en1⟩:=K.check_parts hck
   have ta0:=(T.check_rooms hck).2.1
   have hbr5:=bel b25 hbr
   have hbw:=bel hb5 hbr
   have hB0r:=blk_below hbr5 hB0
   have hB1r:=blk_below hbr5 hB1
   have p0:=blk_cell hB0r 0 _ rfl
   have p1:=blk_cell hB0r 1 _ rfl
   have s0:=blk_cell hB1r 0 _ rfl
   have s1:=blk_cell hB1r 1 _ rfl
   have s2:=blk_cell hB1r 2 _ rfl
   have s3:=blk_cell hB1r 3 _ rfl
   have s4:=blk_cell hB1r 4 _ rfl
   have s5:=blk_cell hB1r 5 _ rfl
   have kA:IntKind.i64.wrap (x.s.tare + kilos)=x.s.tare + kilos:=by rw [IntWalk.i64_in _ (by omega)]
   have kB:IntKind.i64.wrap (x.s.start + minutes)=x.s.start + minutes:=by rw [IntWalk.i64_in _ (by omega)]
   have kC:IntKind.i64.wrap kilos=kilos:=by rw [IntWalk.i64_in _ (by omega)]
   have kD:IntKind.i64.wrap minutes=minutes:=by rw [IntWalk.i64_in _ (by omega)]
   have hd:decide ((x.m:Int) < (x.m:Int))=false:=decide_eq_false (by omega)
   have hd2:decide (x.m < x.m)=false:=decide_eq_false (by omega)
   go_upto_region 13 with fail
   obtain ⟨w12,hw12⟩:∃ w12:World,w12=wr.alloc (.cells #[.int .i64 x.s.day,.int .i64 x.s.depot,.int .i64 x.s.start,.int .i64 x.s.end_,.int .i64 x.s.tare,.slice x.s.A x.s.n x.s.c] 43):=⟨_,rfl⟩
   obtain ⟨g17,hg17⟩:∃ g,g=wr.heap.size:=⟨_,rfl⟩
   have b12:Below wr.heap.size wr w12:=by rw [hw12];exact bel_alc _ _
   have hC17:w12.heap[g17]? = some (.cells #[.int .i64 x.s.day,.int .i64 x.s.depot,.int .i64 x.s.start,.int .i64 x.s.end_,.int .i64 x.s.tare,.slice x.s.A x.s.n x.s.c] 43 (0,0)):=by rw [hw12,hg17];exact heap_alloc_new _ _
   rw [←hw12,←hg17]
   have HG:=Lib.hid hg17
   clear hw12 hg17 hd hd2 p0 p1 s0 s1 s2 s3 s4 s5
   have hB012:=blk_below b12 hB0r
   have hB112:=blk_below b12 hB1r
   have s0:=blk_cell hB112 0 _ rfl
   have s1:=blk_cell hB112 1 _ rfl
   have s2:=blk_cell hB112 2 _ rfl
   have s3:=blk_cell hB112 3 _ rfl
   have s4:=blk_cell hB112 4 _ rfl
   have s5:=blk_cell hB112 5 _ rfl
   have fr:=blk_free hC17
   have c4':=blk_cell hC17 4 _ rfl
   go_upto_region 14 with fail
   obtain ⟨t1,ht1⟩:∃ t1,t1=(if x.s.tare + kilos < 1000000 then x.s.tare + kilos else 1000000):=⟨_,rfl⟩
   rw [←ht1]
   have hT1:x.s.tare≤t1∧t1≤1000000:=by rw [ht1];split <;> omega
   obtain ⟨w13,hw13⟩:∃ w13,w13=w12.setCell ⟨g17,4,none⟩ (.int .i64 t1):=⟨_,rfl⟩
   have hC13:=blk_set hC17 4 (.int .i64 t1)
   rw [←hw13] at hC13 ⊢
   have b13:Below wr.heap.size wr w13:=by rw [hw13];exact b12.setCell (by rw [HG.out];exact Nat.le_refl _) _
   clear ht1 hw13 fr c4' s0 s1 s2 s3 s4 s5
   have hB013:=blk_below b13 hB0r
   have hB113:=blk_below b13 hB1r
   have s0:=blk_cell hB113 0 _ rfl
   have s1:=blk_cell hB113 1 _ rfl
   have s2:=blk_cell hB113 2 _ rfl
   have s3:=blk_cell hB113 3 _ rfl
   have s4:=blk_cell hB113 4 _ rfl
   have s5:=blk_cell hB113 5 _ rfl
   have fr:=blk_free hC13
   have c2':=blk_cell hC13 2 _ rfl
   go_upto_region 15 with fail
   obtain ⟨u1,hu1⟩:∃ u1,u1=(if x.s.start + minutes < x.s.end_ then x.s.start + minutes else x.s.end_):=⟨_,rfl⟩
   rw [←hu1]
   have hU1:x.s.start≤u1∧u1≤x.s.end_:=by rw [hu1];split <;> omega
   obtain ⟨w14,hw14⟩:∃ w14,w14=w13.setCell ⟨g17,2,none⟩ (.int .i64 u1):=⟨_,rfl⟩
   have hC14:w14.heap[g17]? = some (.cells #[.int .i64 x.s.day,.int .i64 x.s.depot,.int .i64 u1,.int .i64 x.s.end_,.int .i64 t1,.slice x.s.A x.s.n x.s.c] 43 (0,0)):=by rw [hw14];exact blk_set hC13 2 (.int .i64 u1)
   rw [←hw14]
   have b14:Below wr.heap.size wr w14:=by rw [hw14];exact b13.setCell (by rw [HG.out];exact Nat.le_refl _) _
   clear hu1 hw14 fr c2' s0 s1 s2 s3 s4 s5 kA kB hC13
   have HAT:=Lib.hid (show ∀ w',Below w.heap.size w w'→At w' x from fun w' h=>⟨Lst.below hR h,hI.below h,hQ.below h,by
     have h9:=HF.out.few
     simp only [K.few27] at h9
     simp at h9
     omega,by
     have h9:=(HF.out.s x.s List.mem_cons_self).1
     have:=T.few_n h9
     omega,by omega,fun q hq=>by have:=(HF.out.r q hq).1;omega⟩)
   obtain ⟨Y1,hY1⟩:∃ Y,Y=K.bestOut x.nd x.l x.s x.r (K.iota x.m):=⟨_,rfl⟩
   obtain ⟨Y2,hY2⟩:∃ Y,Y=K.bestOut x.nd x.l ⟨x.s.day,x.s.depot,u1,x.s.end_,t1,x.s.A,x.s.n,x.s.c,x.s.l⟩ x.r (K.iota x.m):=⟨_,rfl⟩
   obtain ⟨Y3,hY3⟩:∃ Y,Y=K.bestOut x.nd x.l x.s x.r (K.others but x.m):=⟨_,rfl⟩
   obtain ⟨t2,ht2⟩:∃ t2,t2=(if x.s.start < x.s.end_ - minutes then x.s.end_ - minutes else x.s.start):=⟨_,rfl⟩
   have hT2:x.s.start≤t2∧t2≤x.s.end_:=by rw [ht2];split <;> omega
   obtain ⟨Y4,hY4⟩:∃ Y,Y=K.bestOut x.nd x.l ⟨x.s.day,x.s.depot,x.s.start,t2,x.s.tare,x.s.A,x.s.n,x.s.c,x.s.l⟩ x.r (K.iota x.m):=⟨_,rfl⟩
   have HT2:=Lib.hid ht2
   have hok:=top_ok HF.out List.mem_cons_self
   have hlaw:=K.heavier_law hok (K.others_sub but x.r.length) hT1.1 hT1.2 hU1.1 hU1.2 hT2.1 hT2.2
   dsimp only at hlaw
   rw [←HRN.out,←hY1,←hY2,←hY3,←hY4] at hlaw
   obtain ⟨a,ha⟩:∃ a,a=Y1.1.end_:=⟨_,rfl⟩
   obtain ⟨e1,he1⟩:∃ e,e=Y1.2:=⟨_,rfl⟩
   obtain ⟨bb,hbb⟩:∃ a,a=Y2.1.end_:=⟨_,rfl⟩
   obtain ⟨e2,he2⟩:∃ e,e=Y2.2:=⟨_,rfl⟩
   obtain ⟨c,hc⟩:∃ a,a=Y3.1.end_:=⟨_,rfl⟩
   obtain ⟨e3,he3⟩:∃ e,e=Y3.2:=⟨_,rfl⟩
   obtain ⟨dd,hdd⟩:∃ a,a=Y4.1.end_:=⟨_,rfl⟩
   obtain ⟨e4,he4⟩:∃ e,e=Y4.2:=⟨_,rfl⟩
   rw [←ha,←he1,←hbb,←he2,←hc,←he3,←hdd,←he4] at hlaw
   have HL:Heavier a bb c dd e1 e2 e3 e4 t2:=⟨hlaw.1,hlaw.2.1,hlaw.2.2.1,hlaw.2.2.2⟩
   have HY1:=Lib.hid hY1
   have HY2:=Lib.hid hY2
   have HY3:=Lib.hid hY3
   have HY4:=Lib.hid hY4
   have HA1:=Lib.hid ha
   have HE1:=Lib.hid he1
   have HA2:=Lib.hid hbb
   have HE2:=Lib.hid he2
   have HA3:=Lib.hid hc
   have HE3:=Lib.hid he3
   have HA4:=Lib.hid hdd
   have HE4:=Lib.hid he4
   clear hlaw hok hY1 hY2 hY3 hY4 ha he1 hbb he2 hc he3 hdd he4 ht2
   have hB014:=blk_below b14 hB0r
   have hB114:=blk_below b14 hB1r
   have hw14:=bel hbw b14
   have p0:=blk_cell hB014 0 _ rfl
   have p1:=blk_cell hB014 1 _ rfl
   have s0:=blk_cell hB114 0 _ rfl
   have s1:=blk_cell hB114 1 _ rfl
   have s2:=blk_cell hB114 2 _ rfl
   have s3:=blk_cell hB114 3 _ rfl
   have s4:=blk_cell hB114 4 _ rfl
   have s5:=blk_cell hB114 5 _ rfl
   have CB:=best_any x A4 x.m c4 (K.iota x.m) w14 (HAT.out _ hw14) (hR4.below b14) hc4 (by omega)
   rw [←HY1.out] at CB
   go_wp2_with fail
   refine CB.mono ?_
   rintro e v1 ⟨⟨T1,tn1,tc1,U1,un1,uc1,rfl,-,-,-,-,-,-⟩,q1⟩
   rw [←HA1.out,←HE1.out]
   obtain ⟨V1,hV1⟩:∃ V:World,V=v1.alloc (.cells #[.int .i64 0,.slice T1 tn1 tc1,.slice U1 un1 uc1,.int .i64 a] 51):=⟨_,rfl⟩
   obtain ⟨h1,hh1⟩:∃ g,g=v1.heap.size:=⟨_,rfl⟩
   have r1:Below v1.heap.size v1 V1:=by rw [hV1];exact bel_alc _ _
   have hD1:V1.heap[h1]? = some (.cells #[.int .i64 0,.slice T1 tn1 tc1,.slice U1 un1 uc1,.int .i64 a] 51 (0,0)):=by rw [hV1,hh1];exact heap_alloc_new _ _
   have qr1:=bel q1 r1
   have hwV1:=bel hw14 qr1
   have bV1:=bel b14 qr1
   clear CB p0 p1 s0 s1 s2 s3 s4 s5
   go_upto_region 16 with fail
   rw [←hV1,←hh1]
   have hB0V1:=blk_below qr1 hB014
   have hB1V1:=blk_below qr1 hB114
   have hCV1:=blk_below qr1 hC14
   clear hV1 hh1
   have p0:=blk_cell hB0V1 0 _ rfl
   have p1:=blk_cell hB0V1 1 _ rfl
   have s0:=blk_cell hCV1 0 _ rfl
   have s1:=blk_cell hCV1 1 _ rfl
   have s2:=blk_cell hCV1 2 _ rfl
   have s3:=blk_cell hCV1 3 _ rfl
   have s4:=blk_cell hCV1 4 _ rfl
   have s5:=blk_cell hCV1 5 _ rfl
   have CB:=best_any (⟨x.nd,x.A,x.n,x.c,x.l,⟨x.s.day,x.s.depot,u1,x.s.end_,t1,x.s.A,x.s.n,x.s.c,x.s.l⟩,x.B,x.m,x.d,x.r⟩) A4 x.m c4 (K.iota x.m) V1 (At.shift (HAT.out _ hwV1) _ rfl rfl rfl) (hR4.below bV1) hc4 (by omega)
   dsimp only at CB
   rw [←HY2.out] at CB
   go_wp2_with fail
   refine CB.mono ?_
   rintro e v2 ⟨⟨T2,tn2,tc2,U2,un2,uc2,rfl,-,-,-,-,-,-⟩,q2⟩
   rw [←HA2.out,←HE2.out]
   obtain ⟨V2,hV2⟩:∃ V:World,V=v2.alloc (.cells #[.int .i64 0,.slice T2 tn2 tc2,.slice U2 un2 uc2,.int .i64 bb] 51):=⟨_,rfl⟩
   obtain ⟨h2,hh2⟩:∃ g,g=v2.heap.size:=⟨_,rfl⟩
   have r2:Below v2.heap.size v2 V2:=by rw [hV2];exact bel_alc _ _
   have hD2:V2.heap[h2]? = some (.cells #[.int .i64 0,.slice T2 tn2 tc2,.slice U2 un2 uc2,.int .i64 bb] 51 (0,0)):=by rw [hV2,hh2];exact heap_alloc_new _ _
   have qr2:=bel q2 r2
   have hwV2:=bel hwV1 qr2
   have bV2:=bel bV1 qr2
   clear CB p0 p1 s0 s1 s2 s3 s4 s5
   go_upto_region 17 with fail
   rw [←hV2,←hh2]
   have hB0V2:=blk_below qr2 hB0V1
   have hB1V2:=blk_below qr2 hB1V1
   have hCV2:=blk_below qr2 hCV1
   have hD1V2:=blk_below qr2 hD1
   clear hV2 hh2
   have p0:=blk_cell hB0V2 0 _ rfl
   have p1:=blk_cell hB0V2 1 _ rfl
   have s0:=blk_cell hB1V2 0 _ rfl
   have s1:=blk_cell hB1V2 1 _ rfl
   have s2:=blk_cell hB1V2 2 _ rfl
   have s3:=blk_cell hB1V2 3 _ rfl
   have s4:=blk_cell hB1V2 4 _ rfl
   have s5:=blk_cell hB1V2 5 _ rfl
   have CB:=best_any x A5 n5 c5 (K.others but x.m) V2 (HAT.out _ hwV2) (hR5.below bV2) hc5 (by omega)
   rw [←HY3.out] at CB
   go_wp2_with fail
   refine CB.mono ?_
   rintro e v3 ⟨⟨T3,tn3,tc3,U3,un3,uc3,rfl,-,-,-,-,-,-⟩,q3⟩
   rw [←HA3.out,←HE3.out]
   obtain ⟨V3,hV3⟩:∃ V:World,V=v3.alloc (.cells #[.int .i64 0,.slice T3 tn3 tc3,.slice U3 un3 uc3,.int .i64 c] 51):=⟨_,rfl⟩
   obtain ⟨h3,hh3⟩:∃ g,g=v3.heap.size:=⟨_,rfl⟩
   have r3:Below v3.heap.size v3 V3:=by rw [hV3];exact bel_alc _ _
   have hD3:V3.heap[h3]? = some (.cells #[.int .i64 0,.slice T3 tn3 tc3,.slice U3 un3 uc3,.int .i64 c] 51 (0,0)):=by rw [hV3,hh3];exact heap_alloc_new _ _
   have qr3:=bel q3 r3
   have hwV3:=bel hwV2 qr3
   have bV3:=bel bV2 qr3
   clear CB p0 p1 s0 s1 s2 s3 s4 s5
   go_upto_region 18 with fail
   rw [←hV3,←hh3]
   have hB0V3:=blk_below qr3 hB0V2
   have hB1V3:=blk_below qr3 hB1V2
   have hCV3:=blk_below qr3 hCV2
   have hD1V3:=blk_below qr3 hD1V2
   have hD2V3:=blk_below qr3 hD2
   clear hV3 hh3
   have HLL:=Lib.hid HL
   have z1:=blk_cell hD1V3 3 _ rfl
   have z2:=blk_cell hD2V3 3 _ rfl
   have z3:=blk_cell hD3 3 _ rfl
   have hne1:h1 ≠ g17:=fun e=>by
    have h9:=blk_ltA hCV1
    rw [e] at hD1
    have h8:=hD1.symm.trans hCV1
    simp at h8
   by_cases he1:e1=0
   rotate_left
   ·have n2:e2 ≠ 0:=fun h=>he1 (HLL.out.one h).1
    have n4:e4 ≠ 0:=fun h=>he1 (HLL.out.three h).1
    have d1:(e1 == 0)=false:=by simp [he1]
    have d2:(e2 == 0)=false:=by simp [n2]
    have d3:decide (e1=0)=false:=by simp [he1]
    have d4:decide (e2=0)=false:=by simp [n2]
    have d5:(e1 != 0)=true:=by simp [bne,he1]
    have d6:(e4 != 0)=true:=by simp [bne,n4]
    have d7:decide (e4=0)=false:=by simp [n4]
    clear he1 n2 n4 HL
    go_upto_region 20 with fail
    clear z1 z2 z3
    have s0:=blk_cell hB1V3 0 _ rfl
    have s1:=blk_cell hB1V3 1 _ rfl
    have s2:=blk_cell hB1V3 2 _ rfl
    have s3:=blk_cell hB1V3 3 _ rfl
    have s4:=blk_cell hB1V3 4 _ rfl
    have s5:=blk_cell hB1V3 5 _ rfl
    have fr:=blk_free hCV3
    have y0:=blk_cell hCV3 0 _ rfl
    have y1:=blk_cell hCV3 1 _ rfl
    have y2:=blk_cell hCV3 2 _ rfl
    have y3:=blk_cell hCV3 3 _ rfl
    have y4:=blk_cell hCV3 4 _ rfl
    have y5:=blk_cell hCV3 5 _ rfl
    go_upto_region 21 with fail
    obtain ⟨w20,hw20⟩:∃ w20,w20=(((((V3.setCell ⟨g17,0,none⟩ (.int .i64 x.s.day)).setCell ⟨g17,1,none⟩ (.int .i64 x.s.depot)).setCell ⟨g17,2,none⟩ (.int .i64 x.s.start)).setCell ⟨g17,3,none⟩ (.int .i64 x.s.end_)).setCell ⟨g17,4,none⟩ (.int .i64 x.s.tare)).setCell ⟨g17,5,none⟩ (.slice x.s.A x.s.n x.s.c):=⟨_,rfl⟩
    have hC20:w20.heap[g17]? = some (.cells #[.int .i64 x.s.day,.int .i64 x.s.depot,.int .i64 x.s.start,.int .i64 x.s.end_,.int .i64 x.s.tare,.slice x.s.A x.s.n x.s.c] 43 (0,0)):=by rw [hw20];exact blk_set (blk_set (blk_set (blk_set (blk_set (blk_set hCV3 0 _) 1 _) 2 _) 3 _) 4 _) 5 _
    have hgr:wr.heap.size≤g17:=by rw [HG.out];exact Nat.le_refl _
    have b20:Below wr.heap.size wr w20:=by rw [hw20];exact (((((bV3.setCell hgr _).setCell hgr _).setCell hgr _).setCell hgr _).setCell hgr _).setCell hgr _
    have hO20:∀ g o,g ≠ g17→V3.heap[g]? = some o→w20.heap[g]? = some o:=fun g o hne h=>by
     rw [hw20]
     exact blk_other6 hne h _ _ _ _ _ _
    rw [←hw20]
    clear hw20 s0 s1 s2 s3 s4 s5 fr y0 y1 y2 y3 y4 y5
    have hB020:=blk_below b20 hB0r
    have hB120:=blk_below b20 hB1r
    have s0:=blk_cell hB120 0 _ rfl
    have s1:=blk_cell hB120 1 _ rfl
    have s2:=blk_cell hB120 2 _ rfl
    have s3:=blk_cell hB120 3 _ rfl
    have s4:=blk_cell hB120 4 _ rfl
    have s5:=blk_cell hB120 5 _ rfl
    have fr:=blk_free hC20
    have y3:=blk_cell hC20 3 _ rfl
    have kS:IntKind.i64.wrap (x.s.end_ - minutes)=x.s.end_ - minutes:=by rw [IntWalk.i64_in _ (by omega)]
    go_upto_region 22 with fail
    rw [←HT2.out]
    obtain ⟨w21,hw21⟩:∃ w21,w21=w20.setCell ⟨g17,3,none⟩ (.int .i64 t2):=⟨_,rfl⟩
    have hC21:w21.heap[g17]? = some (.cells #[.int .i64 x.s.day,.int .i64 x.s.depot,.int .i64 x.s.start,.int .i64 t2,.int .i64 x.s.tare,.slice x.s.A x.s.n x.s.c] 43 (0,0)):=by rw [hw21];exact blk_set hC20 3 _
    have b21:Below wr.heap.size wr w21:=by rw [hw21];exact b20.setCell hgr _
    have hO21:∀ g o,g ≠ g17→V3.heap[g]? = some o→w21.heap[g]? = some o:=fun g o hne h=>by
     rw [hw21,blk_other1 hne]
     exact hO20 g o hne h
    rw [←hw21]
    clear hw21 s0 s1 s2 s3 s4 s5 fr y3 kS kD
    have hB021:=blk_below b21 hB0r
    have hD121:=hO21 _ _ hne1 hD1V3
    have hw21w:=bel hbw b21
    have p0:=blk_cell hB021 0 _ rfl
    have p1:=blk_cell hB021 1 _ rfl
    have s0:=blk_cell hC21 0 _ rfl
    have s1:=blk_cell hC21 1 _ rfl
    have s2:=blk_cell hC21 2 _ rfl
    have s3:=blk_cell hC21 3 _ rfl
    have s4:=blk_cell hC21 4 _ rfl
    have s5:=blk_cell hC21 5 _ rfl
    have CB:=best_any (⟨x.nd,x.A,x.n,x.c,x.l,⟨x.s.day,x.s.depot,x.s.start,t2,x.s.tare,x.s.A,x.s.n,x.s.c,x.s.l⟩,x.B,x.m,x.d,x.r⟩) A4 x.m c4 (K.iota x.m) w21 (At.shift (HAT.out _ hw21w) _ rfl rfl rfl) (hR4.below b21) hc4 (by omega)
    dsimp only at CB
    rw [←HY4.out] at CB
    go_wp2_with fail
    refine CB.mono ?_
    rintro e v4 ⟨⟨T4,tn4,tc4,U4,un4,uc4,rfl,-,-,-,-,-,-⟩,q4⟩
    rw [←HA4.out,←HE4.out]
    obtain ⟨V4,hV4⟩:∃ V:World,V=v4.alloc (.cells #[.int .i64 0,.slice T4 tn4 tc4,.slice U4 un4 uc4,.int .i64 dd] 51):=⟨_,rfl⟩
    obtain ⟨h4,hh4⟩:∃ g,g=v4.heap.size:=⟨_,rfl⟩
    have r4:Below v4.heap.size v4 V4:=by rw [hV4];exact bel_alc _ _
    have hD4:V4.heap[h4]? = some (.cells #[.int .i64 0,.slice T4 tn4 tc4,.slice U4 un4 uc4,.int .i64 dd] 51 (0,0)):=by rw [hV4,hh4];exact heap_alloc_new _ _
    have qr4:=bel q4 r4
    have hwV4:=bel hw21w qr4
    clear CB p0 p1 s0 s1 s2 s3 s4 s5
    go_upto_region 23 with fail
    rw [←hV4,←hh4]
    clear hV4 hh4
    have hD1V4:=blk_below qr4 hD121
    have hCV4:=blk_below qr4 hC21
    have u1':=blk_cell hD1V4 3 _ rfl
    have u4':=blk_cell hD4 3 _ rfl
    have u17:=blk_cell hCV4 3 _ rfl
    go_wp2_with fail
    go_ret
    exact ⟨rfl,hwV4⟩
   have n3:=HLL.out.two he1
   have d1:(e1 == 0)=true:=by simp [he1]
   have d3:decide (e1=0)=true:=by simp [he1]
   have d5:(e1 != 0)=false:=by simp [bne,he1]
   have d8:(e3 != 0)=false:=by simp [bne,n3.1]
   have d9:decide (e3=0)=true:=by simp [n3.1]
   have d10:decide (a < c)=false:=decide_eq_false (by omega)
   have HE:=Lib.hid he1
   clear he1 n3
   by_cases he2:e2=0
   rotate_left
   ·have d2:(e2 == 0)=false:=by simp [he2]
    have d4:decide (e2=0)=false:=by simp [he2]
    clear he2 HL
    go_upto_region 20 with fail
    clear z1 z2 z3
    have s0:=blk_cell hB1V3 0 _ rfl
    have s1:=blk_cell hB1V3 1 _ rfl
    have s2:=blk_cell hB1V3 2 _ rfl
    have s3:=blk_cell hB1V3 3 _ rfl
    have s4:=blk_cell hB1V3 4 _ rfl
    have s5:=blk_cell hB1V3 5 _ rfl
    have fr:=blk_free hCV3
    have y0:=blk_cell hCV3 0 _ rfl
    have y1:=blk_cell hCV3 1 _ rfl
    have y2:=blk_cell hCV3 2 _ rfl
    have y3:=blk_cell hCV3 3 _ rfl
    have y4:=blk_cell hCV3 4 _ rfl
    have y5:=blk_cell hCV3 5 _ rfl
    go_upto_region 21 with fail
    obtain ⟨w20,hw20⟩:∃ w20,w20=(((((V3.setCell ⟨g17,0,none⟩ (.int .i64 x.s.day)).setCell ⟨g17,1,none⟩ (.int .i64 x.s.depot)).setCell ⟨g17,2,none⟩ (.int .i64 x.s.start)).setCell ⟨g17,3,none⟩ (.int .i64 x.s.end_)).setCell ⟨g17,4,none⟩ (.int .i64 x.s.tare)).setCell ⟨g17,5,none⟩ (.slice x.s.A x.s.n x.s.c):=⟨_,rfl⟩
    have hC20:w20.heap[g17]? = some (.cells #[.int .i64 x.s.day,.int .i64 x.s.depot,.int .i64 x.s.start,.int .i64 x.s.end_,.int .i64 x.s.tare,.slice x.s.A x.s.n x.s.c] 43 (0,0)):=by rw [hw20];exact blk_set (blk_set (blk_set (blk_set (blk_set (blk_set hCV3 0 _) 1 _) 2 _) 3 _) 4 _) 5 _
    have hgr:wr.heap.size≤g17:=by rw [HG.out];exact Nat.le_refl _
    have b20:Below wr.heap.size wr w20:=by rw [hw20];exact (((((bV3.setCell hgr _).setCell hgr _).setCell hgr _).setCell hgr _).setCell hgr _).setCell hgr _
    have hO20:∀ g o,g ≠ g17→V3.heap[g]? = some o→w20.heap[g]? = some o:=fun g o hne h=>by
     rw [hw20]
     exact blk_other6 hne h _ _ _ _ _ _
    rw [←hw20]
    clear hw20 s0 s1 s2 s3 s4 s5 fr y0 y1 y2 y3 y4 y5
    have hB020:=blk_below b20 hB0r
    have hB120:=blk_below b20 hB1r
    have s0:=blk_cell hB120 0 _ rfl
    have s1:=blk_cell hB120 1 _ rfl
    have s2:=blk_cell hB120 2 _ rfl
    have s3:=blk_cell hB120 3 _ rfl
    have s4:=blk_cell hB120 4 _ rfl
    have s5:=blk_cell hB120 5 _ rfl
    have fr:=blk_free hC20
    have y3:=blk_cell hC20 3 _ rfl
    have kS:IntKind.i64.wrap (x.s.end_ - minutes)=x.s.end_ - minutes:=by rw [IntWalk.i64_in _ (by omega)]
    go_upto_region 22 with fail
    rw [←HT2.out]
    obtain ⟨w21,hw21⟩:∃ w21,w21=w20.setCell ⟨g17,3,none⟩ (.int .i64 t2):=⟨_,rfl⟩
    have hC21:w21.heap[g17]? = some (.cells #[.int .i64 x.s.day,.int .i64 x.s.depot,.int .i64 x.s.start,.int .i64 t2,.int .i64 x.s.tare,.slice x.s.A x.s.n x.s.c] 43 (0,0)):=by rw [hw21];exact blk_set hC20 3 _
    have b21:Below wr.heap.size wr w21:=by rw [hw21];exact b20.setCell hgr _
    have hO21:∀ g o,g ≠ g17→V3.heap[g]? = some o→w21.heap[g]? = some o:=fun g o hne h=>by
     rw [hw21,blk_other1 hne]
     exact hO20 g o hne h
    rw [←hw21]
    clear hw21 s0 s1 s2 s3 s4 s5 fr y3 kS kD
    have hB021:=blk_below b21 hB0r
    have hD121:=hO21 _ _ hne1 hD1V3
    have hw21w:=bel hbw b21
    have p0:=blk_cell hB021 0 _ rfl
    have p1:=blk_cell hB021 1 _ rfl
    have s0:=blk_cell hC21 0 _ rfl
    have s1:=blk_cell hC21 1 _ rfl
    have s2:=blk_cell hC21 2 _ rfl
    have s3:=blk_cell hC21 3 _ rfl
    have s4:=blk_cell hC21 4 _ rfl
    have s5:=blk_cell hC21 5 _ rfl
    have CB:=best_any (⟨x.nd,x.A,x.n,x.c,x.l,⟨x.s.day,x.s.depot,x.s.start,t2,x.s.tare,x.s.A,x.s.n,x.s.c,x.s.l⟩,x.B,x.m,x.d,x.r⟩) A4 x.m c4 (K.iota x.m) w21 (At.shift (HAT.out _ hw21w) _ rfl rfl rfl) (hR4.below b21) hc4 (by omega)
    dsimp only at CB
    rw [←HY4.out] at CB
    go_wp2_with fail
    refine CB.mono ?_
    rintro e v4 ⟨⟨T4,tn4,tc4,U4,un4,uc4,rfl,-,-,-,-,-,-⟩,q4⟩
    rw [←HA4.out,←HE4.out]
    obtain ⟨V4,hV4⟩:∃ V:World,V=v4.alloc (.cells #[.int .i64 0,.slice T4 tn4 tc4,.slice U4 un4 uc4,.int .i64 dd] 51):=⟨_,rfl⟩
    obtain ⟨h4,hh4⟩:∃ g,g=v4.heap.size:=⟨_,rfl⟩
    have r4:Below v4.heap.size v4 V4:=by rw [hV4];exact bel_alc _ _
    have hD4:V4.heap[h4]? = some (.cells #[.int .i64 0,.slice T4 tn4 tc4,.slice U4 un4 uc4,.int .i64 dd] 51 (0,0)):=by rw [hV4,hh4];exact heap_alloc_new _ _
    have qr4:=bel q4 r4
    have hwV4:=bel hw21w qr4
    clear CB p0 p1 s0 s1 s2 s3 s4 s5
    go_upto_region 23 with fail
    rw [←hV4,←hh4]
    clear hV4 hh4
    have hD1V4:=blk_below qr4 hD121
    have hCV4:=blk_below qr4 hC21
    have u1':=blk_cell hD1V4 3 _ rfl
    have u4':=blk_cell hD4 3 _ rfl
    have u17:=blk_cell hCV4 3 _ rfl
    by_cases he4:e4=0
    rotate_left
    ·have hlt9:t2 < a:=by
      rcases Int.lt_or_le t2 a with h9 | h9
      ·exact h9
      ·exact absurd (HLL.out.four HE.out h9) he4
     have m1:(e4 != 0)=true:=by simp [bne,he4]
     have m2:decide (e4=0)=false:=by simp [he4]
     have m3:decide (t2 < a)=true:=decide_eq_true hlt9
     clear he4 hlt9
     go_wp2_with fail
     go_ret
     exact ⟨rfl,hwV4⟩
    have m1:(e4 != 0)=false:=by simp [bne,he4]
    have m2:decide (e4=0)=true:=by simp [he4]
    have m4:(e4 == 0)=true:=by simp [he4]
    have m3:(dd == a)=true:=by simp [(HLL.out.three he4).2]
    have m5:decide (dd=a)=true:=by simp [(HLL.out.three he4).2]
    clear he4
    by_cases hlt9:t2 < a
    ·have m6:decide (t2 < a)=true:=decide_eq_true hlt9
     clear hlt9
     go_wp2_with fail
     go_ret
     exact ⟨rfl,hwV4⟩
    have m6:decide (t2 < a)=false:=decide_eq_false hlt9
    clear hlt9
    go_wp2_with fail
    go_ret
    exact ⟨rfl,hwV4⟩
   have d2:(e2 == 0)=true:=by simp [he2]
   have d4:decide (e2=0)=true:=by simp [he2]
   have d11:decide (bb < a)=false:=decide_eq_false (by have:=(HLL.out.one he2).2;omega)
   clear he2 HL
   go_upto_region 20 with fail
   clear z1 z2 z3
   have s0:=blk_cell hB1V3 0 _ rfl
   have s1:=blk_cell hB1V3 1 _ rfl
   have s2:=blk_cell hB1V3 2 _ rfl
   have s3:=blk_cell hB1V3 3 _ rfl
   have s4:=blk_cell hB1V3 4 _ rfl
   have s5:=blk_cell hB1V3 5 _ rfl
   have fr:=blk_free hCV3
   have y0:=blk_cell hCV3 0 _ rfl
   have y1:=blk_cell hCV3 1 _ rfl
   have y2:=blk_cell hCV3 2 _ rfl
   have y3:=blk_cell hCV3 3 _ rfl
   have y4:=blk_cell hCV3 4 _ rfl
   have y5:=blk_cell hCV3 5 _ rfl
   go_upto_region 21 with fail
   obtain ⟨w20,hw20⟩:∃ w20,w20=(((((V3.setCell ⟨g17,0,none⟩ (.int .i64 x.s.day)).setCell ⟨g17,1,none⟩ (.int .i64 x.s.depot)).setCell ⟨g17,2,none⟩ (.int .i64 x.s.start)).setCell ⟨g17,3,none⟩ (.int .i64 x.s.end_)).setCell ⟨g17,4,none⟩ (.int .i64 x.s.tare)).setCell ⟨g17,5,none⟩ (.slice x.s.A x.s.n x.s.c):=⟨_,rfl⟩
   have hC20:w20.heap[g17]? = some (.cells #[.int .i64 x.s.day,.int .i64 x.s.depot,.int .i64 x.s.start,.int .i64 x.s.end_,.int .i64 x.s.tare,.slice x.s.A x.s.n x.s.c] 43 (0,0)):=by rw [hw20];exact blk_set (blk_set (blk_set (blk_set (blk_set (blk_set hCV3 0 _) 1 _) 2 _) 3 _) 4 _) 5 _
   have hgr:wr.heap.size≤g17:=by rw [HG.out];exact Nat.le_refl _
   have b20:Below wr.heap.size wr w20:=by rw [hw20];exact (((((bV3.setCell hgr _).setCell hgr _).setCell hgr _).setCell hgr _).setCell hgr _).setCell hgr _
   have hO20:∀ g o,g ≠ g17→V3.heap[g]? = some o→w20.heap[g]? = some o:=fun g o hne h=>by
    rw [hw20]
    exact blk_other6 hne h _ _ _ _ _ _
   rw [←hw20]
   clear hw20 s0 s1 s2 s3 s4 s5 fr y0 y1 y2 y3 y4 y5
   have hB020:=blk_below b20 hB0r
   have hB120:=blk_below b20 hB1r
   have s0:=blk_cell hB120 0 _ rfl
   have s1:=blk_cell hB120 1 _ rfl
   have s2:=blk_cell hB120 2 _ rfl
   have s3:=blk_cell hB120 3 _ rfl
   have s4:=blk_cell hB120 4 _ rfl
   have s5:=blk_cell hB120 5 _ rfl
   have fr:=blk_free hC20
   have y3:=blk_cell hC20 3 _ rfl
   have kS:IntKind.i64.wrap (x.s.end_ - minutes)=x.s.end_ - minutes:=by rw [IntWalk.i64_in _ (by omega)]
   go_upto_region 22 with fail
   rw [←HT2.out]
   obtain ⟨w21,hw21⟩:∃ w21,w21=w20.setCell ⟨g17,3,none⟩ (.int .i64 t2):=⟨_,rfl⟩
   have hC21:w21.heap[g17]? = some (.cells #[.int .i64 x.s.day,.int .i64 x.s.depot,.int .i64 x.s.start,.int .i64 t2,.int .i64 x.s.tare,.slice x.s.A x.s.n x.s.c] 43 (0,0)):=by rw [hw21];exact blk_set hC20 3 _
   have b21:Below wr.heap.size wr w21:=by rw [hw21];exact b20.setCell hgr _
   have hO21:∀ g o,g ≠ g17→V3.heap[g]? = some o→w21.heap[g]? = some o:=fun g o hne h=>by
    rw [hw21,blk_other1 hne]
    exact hO20 g o hne h
   rw [←hw21]
   clear hw21 s0 s1 s2 s3 s4 s5 fr y3 kS kD
   have hB021:=blk_below b21 hB0r
   have hD121:=hO21 _ _ hne1 hD1V3
   have hw21w:=bel hbw b21
   have p0:=blk_cell hB021 0 _ rfl
   have p1:=blk_cell hB021 1 _ rfl
   have s0:=blk_cell hC21 0 _ rfl
   have s1:=blk_cell hC21 1 _ rfl
   have s2:=blk_cell hC21 2 _ rfl
   have s3:=blk_cell hC21 3 _ rfl
   have s4:=blk_cell hC21 4 _ rfl
   have s5:=blk_cell hC21 5 _ rfl
   have CB:=best_any (⟨x.nd,x.A,x.n,x.c,x.l,⟨x.s.day,x.s.depot,x.s.start,t2,x.s.tare,x.s.A,x.s.n,x.s.c,x.s.l⟩,x.B,x.m,x.d,x.r⟩) A4 x.m c4 (K.iota x.m) w21 (At.shift (HAT.out _ hw21w) _ rfl rfl rfl) (hR4.below b21) hc4 (by omega)
   dsimp only at CB
   rw [←HY4.out] at CB
   go_wp2_with fail
   refine CB.mono ?_
   rintro e v4 ⟨⟨T4,tn4,tc4,U4,un4,uc4,rfl,-,-,-,-,-,-⟩,q4⟩
   rw [←HA4.out,←HE4.out]
   obtain ⟨V4,hV4⟩:∃ V:World,V=v4.alloc (.cells #[.int .i64 0,.slice T4 tn4 tc4,.slice U4 un4 uc4,.int .i64 dd] 51):=⟨_,rfl⟩
   obtain ⟨h4,hh4⟩:∃ g,g=v4.heap.size:=⟨_,rfl⟩
   have r4:Below v4.heap.size v4 V4:=by rw [hV4];exact bel_alc _ _
   have hD4:V4.heap[h4]? = some (.cells #[.int .i64 0,.slice T4 tn4 tc4,.slice U4 un4 uc4,.int .i64 dd] 51 (0,0)):=by rw [hV4,hh4];exact heap_alloc_new _ _
   have qr4:=bel q4 r4
   have hwV4:=bel hw21w qr4
   clear CB p0 p1 s0 s1 s2 s3 s4 s5
   go_upto_region 23 with fail
   rw [←hV4,←hh4]
   clear hV4 hh4
   have hD1V4:=blk_below qr4 hD121
   have hCV4:=blk_below qr4 hC21
   have u1':=blk_cell hD1V4 3 _ rfl
   have u4':=blk_cell hD4 3 _ rfl
   have u17:=blk_cell hCV4 3 _ rfl
   by_cases he4:e4=0
   rotate_left
   ·have hlt9:t2 < a:=by
     rcases Int.lt_or_le t2 a with h9 | h9
     ·exact h9
     ·exact absurd (HLL.out.four HE.out h9) he4
    have m1:(e4 != 0)=true:=by simp [bne,he4]
    have m2:decide (e4=0)=false:=by simp [he4]
    have m3:decide (t2 < a)=true:=decide_eq_true hlt9
    clear he4 hlt9
    go_wp2_with fail
    go_ret
    exact ⟨rfl,hwV4⟩
   have m1:(e4 != 0)=false:=by simp [bne,he4]
   have m2:decide (e4=0)=true:=by simp [he4]
   have m4:(e4 == 0)=true:=by simp [he4]
   have m3:(dd == a)=true:=by simp [(HLL.out.three he4).2]
   have m5:decide (dd=a)=true:=by simp [(HLL.out.three he4).2]
   clear he4
   by_cases hlt9:t2 < a
   ·have m6:decide (t2 < a)=true:=decide_eq_true hlt9
    clear hlt9
    go_wp2_with fail
    go_ret
    exact ⟨rfl,hwV4⟩
   have m6:decide (t2 < a)=false:=decide_eq_false hlt9
   clear hlt9
   go_wp2_with fail
   go_ret
   exact ⟨rfl,hwV4⟩
end Go.Proofs.Ytippdjmpkafifaa
namespace Go.Proofs.Ytippdjmpkafifaa
open Go.ChangeShapes Go.WideShapes Go.Deep Go.RowKit
section
variable {H : Type} {enc : TypeId × Value → H} {P : Program} {w : World} {base : Nat} {spare : Nat → Bool} {held : Bool}
set_option maxRecDepth 100000 in
theorem open_slice_fields {t e:TypeId} {fs:Array Field} {fuel:Nat} {cs:List Value} {x:DataW H × List MemPlace} (ht:P.underlying t=some (.slice e)) (he:P.underlying e=some (.struct fs))
  (hone:oneCellFields P fs=true) (hC:P.cellsOf e=fs.size) (h:DataW.trod enc P w base spare held fuel t cs=some x) :
  (cs=[.slice none 0 0]∧x=(.nil,[])) ∨
  ∃ (a:Addr) (len cap m:Nat) (D:Nat→DataW H) (Pl:Nat→List MemPlace),cs=[.slice (some a) len cap]∧base≤a.block∧len≤cap∧cap≤maxLen∧m=(if spare a.block then cap else len) ∧
   x=(.slice ((List.range len).map D) ((List.range (m - len)).map fun j=>D (len + j)),MemPlace.row a (m * fs.size) ++ (List.range m).flatMap Pl) ∧
   ∀ i,i < m→∃ (ys:List (DataW H × List MemPlace)) (n:Nat),D i=.agg (ys.map (·.1))∧Pl i=ys.flatMap (·.2)∧ys.length=fs.size ∧
    ∀ (j:Nat) (f:Field),fs[j]? = some f→∃ (v:Value) (y:DataW H × List MemPlace),w.cell? (a.add (i * fs.size + j))=some v∧ys[j]? = some y∧DataW.trod enc P w base spare held n f.type [v] = some y:=by
 rcases open_slice ht h with h0 | ⟨a,len,cap,m,n,D,Pl,hcs,hb,hl,hm,hmm,hx,hi⟩
 ·exact .inl h0
 ·refine .inr ⟨a,len,cap,m,D,Pl,hcs,hb,hl,hm,hmm,by rw [hC] at hx;exact hx,fun i him=>?_⟩
  obtain ⟨cs',hc,ht'⟩:=hi i him
  rw [hC] at hc
  obtain ⟨ys,n',hn',hy,hlen,hyl,hf⟩:=DataW.trod_struct he ht'
  obtain ⟨_,hcl,hat⟩:=World.cells?_some hc
  simp only [Prod.mk.injEq] at hy
  refine ⟨ys,n',hy.1,hy.2,hyl,fun j f hj=>?_⟩
  obtain ⟨ho,hk⟩:=hone_of hone j f hj
  have hjl:j < fs.size:=(Array.getElem?_eq_some_iff.1 hj).1
  have hcell:=hat j hjl
  have hv:cs'[j]? = some (cs'[j]'(by omega)):=List.getElem?_eq_getElem (by omega)
  have h1:=hf j f hj
  rw [ho,hk] at h1
  have hone':(cs'.drop j).take 1=[cs'[j]'(by omega)]:=by
   rw [List.drop_eq_getElem_cons (by omega)]
   rfl
  rw [hone'] at h1
  have hys:ys[j]? = some (ys[j]'(by omega)):=List.getElem?_eq_getElem (by omega)
  refine ⟨_,_,?_,hys,h1.trans hys⟩
  rw [←Go.Deep.add_add,hcell,hv]
end
section
variable {H : Type} {enc : TypeId × Value → H} {P : Program}
theorem post_of_below {f:Func} {s:ChangeSpec} {apart fresh handsOn again:Bool} {W W':World} {args:Array Value} {v:Value} {ds gs:List (DataW H)} {before pa pv:List MemPlace}
  (hW:DataW.Whole enc P f.params.toList s.vars apart W args.toList ds gs before)
  (hres:∀ (b:Nat) (sp:Nat→Bool) (hd:Bool),DataW.TrodAll enc P W' b sp hd f.resultTypes.toList (v.resultList f.resultTypes.size) (s.fn H (ds ++ gs)).results [])
  (hargs:∀ sp:Nat→Bool,(∀ p ∈ before,sp p.block=true)→DataW.TrodAll enc P W' 0 sp true f.params.toList args.toList (s.fn H (ds ++ gs)).args pa)
  (hvars:∀ sp:Nat→Bool,(∀ p ∈ before,sp p.block=true)→DataW.TrodVars enc P W' sp s.vars (s.fn H (ds ++ gs)).vars pv)
  (hps:before=pa ++ pv) (hb:Below W.heap.size W W')
  (hok:∀ (j:Nat) (t:TypeId) (r:Value),f.resultTypes[j]? = some t→(v.resultList f.resultTypes.size)[j]? = some r→Value.okWide P W' .any 0 t r) :
  s.post enc P f apart fresh handsOn again W args v W':=by
 have hlt:∀ p ∈ before,p.block < W.heap.size:=fun p hp=>hW.lt p hp
 have hold:∀ p ∈ before,(fun b=>decide (b < W.heap.size)) p.block=true:=fun p hp=>by simpa using hlt p hp
 refine ⟨ds,gs,before,[],pa,pv,hW,hres _ _ _,hargs _ hold,hvars _ hold,World.keptBut_mono (fun p hp=>⟨hp,?_⟩) (hb.frame (· ∈ before)),fun _=>?_⟩
 ·rw [hps,List.mem_append] at hp
  exact Or.inr hp
 ·obtain ⟨_,_,_,_,_,hz,hn⟩:=hW
  refine ⟨hok,_,_,([] ++ pa) ++ pv,⟨[] ++ pa,pv,trodAll_append (hargs _ (fun _ _=>rfl)) (hres _ _ _),hvars _ (fun _ _=>rfl),rfl,?_,?_⟩,?_⟩
  ·intro b off hp
   have hin:MemPlace.cell b off ∈ before:=by rw [hps];simpa using hp
   rw [hb.frozen (hlt _ hin)]
   exact hz b off hin
  ·intro ha
   have:=hn ha
   rw [hps] at this
   simpa using this
  ·intro p hp _
   rw [hps]
   simpa using hp
end
theorem list_of {α:Type} {n:Nat} {Q:Nat→α→Prop} (h:∀ i,i < n→∃ x,Q i x):∃ l:List α,l.length=n∧∀ i x,l[i]? = some x→Q i x:=by
 induction n with
 | zero=>exact ⟨[],rfl,fun i x hx=>by simp at hx⟩
 | succ n ih =>
  obtain ⟨l,hl,hq⟩:=ih (fun i hi=>h i (by omega))
  obtain ⟨x,hx⟩:=h n (by omega)
  refine ⟨l ++ [x],by simp [hl],fun i y hy=>?_⟩
  rw [List.getElem?_append] at hy
  split at hy
  ·exact hq i y hy
  ·rename_i hlt
   have e:i=n:=by
    by_cases e:i - l.length=0
    ·omega
    ·rw [List.getElem?_eq_none (by simp;omega)] at hy;cases hy
   subst e
   rw [←hl,Nat.sub_self] at hy
   simp at hy
   subst hy;exact hx
theorem winCells_cell {w:World} {ad:Addr} {l:List (Int × Int)} (h:∀ i p,l[i]? = some p→w.cell? (ad.add (i * 2))=some (.int .i64 p.1)∧w.cell? (ad.add (i * 2 + 1))=some (.int .i64 p.2)) :
  ∀ j u,(winCells l)[j]? = some u→w.cell? (ad.add j)=some u:=by
 intro j u hu
 have hj:j < (winCells l).length:=(List.getElem?_eq_some_iff.1 hu).1
 rw [winCells_len] at hj
 have hp:l[j / 2]? = some (l[j / 2]'(by omega)):=List.getElem?_eq_getElem (by omega)
 obtain ⟨g1,g2⟩:=winCells_get l _ _ hp
 obtain ⟨k1,k2⟩:=h _ _ hp
 by_cases e:j % 2=0
 ·have:j=j / 2 * 2:=by omega
  rw [this] at hu ⊢
  rw [g1] at hu
  injection hu with hu
  rw [←hu];exact k1
 ·have:j=j / 2 * 2 + 1:=by omega
  rw [this] at hu ⊢
  rw [g2] at hu
  injection hu with hu
  rw [←hu];exact k2
section
variable {H : Type} {enc : TypeId × Value → H} {P : Program}
theorem trodAll_stays (hl:laidOutB P=true) {W W':World} {sp:Nat→Bool} (hb:Below W.heap.size W W') :
  ∀ (ts:List TypeId) (vs:List Value) (ds:List (DataW H)) (ps:List MemPlace),(∀ t ∈ ts,P.readableRec t=true∧t < P.types.size)→DataW.TrodAll enc P W 0 (fun _=>true) true ts vs ds ps →
   (∀ x ∈ ps,x.block < W.heap.size)→(∀ x ∈ ps,sp x.block=true)→DataW.TrodAll enc P W' 0 sp true ts vs ds ps:=by
 intro ts
 induction ts with
 | nil=>intro vs ds ps _ h _ _;cases vs <;> cases ds <;> first | exact h | exact h.elim
 | cons t ts ih =>
  intro vs ds ps hts h hlt hsp
  match vs,ds,h with
  | v :: vs,d :: ds,⟨p,q,h1,h2,e⟩ =>
   subst e
   have ht:=hts t (List.mem_cons_self ..)
   exact ⟨p,q,WideElems.Trod_stays hl ht.1 ht.2 h1 (fun x hx=>hb.same (hlt x (List.mem_append_left _ hx))) (fun x hx=>hsp x (List.mem_append_left _ hx)),
    ih vs ds q (fun t' h'=>hts t' (List.mem_cons_of_mem _ h')) h2 (fun x hx=>hlt x (List.mem_append_right _ hx)) (fun x hx=>hsp x (List.mem_append_right _ hx)),rfl⟩
end
set_option maxRecDepth 100000 in
theorem Try.laid:laidOutB Try.prog=true:=by kernel_rfl
section
variable {H : Type} {enc : TypeId × Value → H}
set_option maxRecDepth 100000 in
theorem post_true {f:Func} {s:ChangeSpec} {W W':World} {args:Array Value} {ds:List (DataW H)} {before:List MemPlace} (hts:∀ t ∈ f.params.toList,Try.prog.readableRec t=true∧t < Try.prog.types.size)
  (hv:s.vars=[]) (hres:f.resultTypes=#[4]) (hW:DataW.Whole enc Try.prog f.params.toList s.vars false W args.toList ds [] before)
  (hspec:s.fn H (ds ++ [])={ results:=[.lit (.bool true)],args:=ds }) (hb:Below W.heap.size W W'):s.post enc Try.prog f false true false false W args (.bool true) W':=by
 have hW':=hW
 obtain ⟨p,q,hA,hV,rfl,hfz,hnd⟩:=hW
 rw [hv] at hV
 obtain ⟨_,rfl⟩:=trodVars_none hV
 have hlt:∀ x ∈ p ++ [],x.block < W.heap.size:=fun x hx=>hW'.lt x hx
 rw [List.append_nil] at hlt
 refine post_of_below (pa:=p) (pv:=[]) hW' ?_ ?_ ?_ rfl hb ?_
 ·intro b sp hd
  rw [hspec,hres]
  exact trodAll_cons_mk (shut_bool Try.underlying4 _) trodAll_mk0
 ·intro sp hsp
  rw [hspec]
  exact trodAll_stays Try.laid hb _ _ _ _ hts hA hlt (fun x hx=>hsp x (by simpa using hx))
 ·intro sp _
  rw [hspec,hv]
  rfl
 ·exact ok_one hres rfl (okWide_bool_mk Try.underlying4 _)
end
end Go.Proofs.Ytippdjmpkafifaa
namespace Go.Proofs.Ytippdjmpkafifaa
open Go.ChangeShapes Go.WideShapes Go.Deep Go.RowKit
section
variable {H : Type} {enc : TypeId × Value → H} {W : World} {base b0 : Nat} {spare : Nat → Bool} {held : Bool} {r : Reach}
set_option maxRecDepth 100000 in
theorem wins_of_trod {fuel:Nat} {v:Value} {x:DataW H × List MemPlace} (hf:DataW.trod enc Try.prog W b0 spare held fuel 44 [v] = some x):∃ A n c l,v=.slice A n c∧Wins W A n l:=by
 rcases open_slice_fields Try.underlying44 Try.underlying100 (by kernel_rfl) (by kernel_rfl) hf with ⟨hcs,_⟩ | ⟨a,len,cap,m,D,Pl,hcs,_,hlc,_,hm,_,hcell⟩
 ·simp at hcs
  subst hcs
  exact ⟨none,0,0,[],rfl,rfl,rfl,fun h0=>absurd h0 (by omega)⟩
 ·simp at hcs
  subst hcs
  have hlm:len≤m:=by rw [hm];split <;> omega
  have key:∀ i,i < len→∃ p:Int × Int,W.cell? (a.add (i * 2))=some (.int .i64 p.1)∧W.cell? (a.add (i * 2 + 1))=some (.int .i64 p.2):=by
   intro i hi
   obtain ⟨ys,n,_,_,_,hfld⟩:=hcell i (by omega)
   obtain ⟨v0,y0,c0,_,t0⟩:=hfld 0 _ rfl
   obtain ⟨v1,y1,c1,_,t1⟩:=hfld 1 _ rfl
   obtain ⟨n0,e0,_⟩:=DataW.trod_int Try.underlying3 t0
   obtain ⟨n1,e1,_⟩:=DataW.trod_int Try.underlying3 t1
   simp at e0 e1
   subst e0 e1
   exact ⟨(n0,n1),c0,c1⟩
  obtain ⟨l,hl,hq⟩:=list_of key
  exact ⟨_,_,_,l,rfl,hl.symm,by rw [winCells_len,hl],fun _=>⟨a,rfl,winCells_cell hq⟩⟩
set_option maxRecDepth 100000 in
theorem ints_of_trod {fuel:Nat} {v:Value} {x:DataW H × List MemPlace} (hf:DataW.trod enc Try.prog W b0 spare held fuel 41 [v] = some x):∃ A n c l,v=.slice A n c∧Ints W A n l:=by
 rcases open_slice Try.underlying41 hf with ⟨hcs,_⟩ | ⟨a,len,cap,m,n,D,Pl,hcs,_,hlc,_,hm,_,hcell⟩
 ·simp at hcs
  subst hcs
  exact ⟨none,0,0,[],rfl,rfl,rfl,fun h0=>absurd h0 (by omega)⟩
 ·simp at hcs
  subst hcs
  have hC:Try.prog.cellsOf 3=1:=by kernel_rfl
  have hlm:len≤m:=by rw [hm];split <;> omega
  have key:∀ i,i < len→∃ p:Int,W.cell? (a.add i)=some (.int .i64 p):=by
   intro i hi
   obtain ⟨cs',hc,ht'⟩:=hcell i (by omega)
   rw [hC,Nat.mul_one] at hc
   obtain ⟨_,_,hat⟩:=World.cells?_some hc
   obtain ⟨n0,e0,_⟩:=DataW.trod_int Try.underlying3 ht'
   subst e0
   have h0:=hat 0 (by omega)
   rw [Go.Deep.add_add,Nat.add_zero] at h0
   exact ⟨n0,h0⟩
  obtain ⟨l,hl,hq⟩:=list_of key
  refine ⟨_,_,_,l,rfl,hl.symm,by simp [intCells,hl],fun _=>⟨a,rfl,?_⟩⟩
  intro j u hu
  rw [intCells,List.getElem?_map] at hu
  obtain ⟨y,hy,rfl⟩:=Option.map_eq_some_iff.1 hu
  exact hq j y hy
theorem reqCells_cell {w:World} {ad:Addr} {l:List Q} (h:∀ i q,l[i]? = some q→∀ j u,q.cells[j]? = some u→w.cell? (ad.add (i * 7 + j))=some u) :
  ∀ j u,(reqCells l)[j]? = some u→w.cell? (ad.add j)=some u:=by
 intro j u hu
 have hj:j < (reqCells l).length:=(List.getElem?_eq_some_iff.1 hu).1
 rw [reqCells_len] at hj
 have hp:l[j / 7]? = some (l[j / 7]'(by omega)):=List.getElem?_eq_getElem (by omega)
 have hjj:j=j / 7 * 7 + j % 7:=by omega
 have g:=reqCells_get l _ _ hp (j % 7) (by omega)
 rw [←hjj,hu] at g
 have:=h _ _ hp (j % 7) u g.symm
 rwa [←hjj] at this
set_option maxRecDepth 100000 in
theorem reqs_of_trod {fuel:Nat} {v:Value} {x:DataW H × List MemPlace} (hf:DataW.trod enc Try.prog W b0 spare held fuel 26 [v] = some x):∃ A n c l,v=.slice A n c∧Reqs W A n l:=by
 rcases open_slice_fields Try.underlying26 Try.underlying46 (by kernel_rfl) (by kernel_rfl) hf with ⟨hcs,_⟩ | ⟨a,len,cap,m,D,Pl,hcs,_,hlc,_,hm,_,hcell⟩
 ·simp at hcs
  subst hcs
  exact ⟨none,0,0,[],rfl,rfl,⟨rfl,fun h0=>absurd h0 (by omega)⟩,fun q hq=>by simp at hq⟩
 ·simp at hcs
  subst hcs
  have hlm:len≤m:=by rw [hm];split <;> omega
  have key:∀ i,i < len→∃ q:Q,Wins W q.A q.n q.l∧∀ j u,q.cells[j]? = some u→W.cell? (a.add (i * 7 + j))=some u:=by
   intro i hi
   obtain ⟨ys,n,_,_,_,hfld⟩:=hcell i (by omega)
   obtain ⟨v0,y0,c0,_,t0⟩:=hfld 0 _ rfl
   obtain ⟨v1,y1,c1,_,t1⟩:=hfld 1 _ rfl
   obtain ⟨v2,y2,c2,_,t2⟩:=hfld 2 _ rfl
   obtain ⟨v3,y3,c3,_,t3⟩:=hfld 3 _ rfl
   obtain ⟨v4,y4,c4,_,t4⟩:=hfld 4 _ rfl
   obtain ⟨v5,y5,c5,_,t5⟩:=hfld 5 _ rfl
   obtain ⟨v6,y6,c6,_,t6⟩:=hfld 6 _ rfl
   obtain ⟨n0,e0,_⟩:=DataW.trod_int Try.underlying3 t0
   obtain ⟨n1,e1,_⟩:=DataW.trod_int Try.underlying3 t1
   obtain ⟨n2,e2,_⟩:=DataW.trod_int Try.underlying3 t2
   obtain ⟨n3,e3,_⟩:=DataW.trod_int Try.underlying3 t3
   obtain ⟨n4,e4,_⟩:=DataW.trod_int Try.underlying3 t4
   obtain ⟨n5,e5,_⟩:=DataW.trod_int Try.underlying3 t5
   obtain ⟨A,nn,cc,l,rfl,hw⟩:=wins_of_trod t6
   simp at e0 e1 e2 e3 e4 e5
   subst e0 e1 e2 e3 e4 e5
   refine ⟨⟨n0,n1,n2,n3,n4,n5,A,nn,cc,l⟩,hw,?_⟩
   intro j u hu
   rcases j with _ | _ | _ | _ | _ | _ | _ | j <;> simp [Q.cells] at hu <;> subst hu <;> assumption
  obtain ⟨l,hl,hq⟩:=list_of key
  refine ⟨_,_,_,l,rfl,hl.symm,⟨by rw [reqCells_len,hl],fun _=>⟨a,rfl,reqCells_cell fun i q hi=>(hq i q hi).2⟩⟩,?_⟩
  intro q hq'
  obtain ⟨i,hi⟩:=List.mem_iff_getElem?.1 hq'
  exact (hq i q hi).1
set_option maxRecDepth 100000 in
theorem open_reqs {v:Value} {d:DataW H} {ps:List MemPlace} (hval:Value.okWide Try.prog W r base 26 v) (h:DataW.Trod enc Try.prog W b0 spare held 26 v d ps):∃ A n c l,v=.slice A n c∧Reqs W A n l:=by
 obtain ⟨a0,len,cap,rfl⟩:=okWide_slice Try.underlying26 hval
 obtain ⟨fuel,hf⟩:=h
 exact reqs_of_trod hf
set_option maxRecDepth 100000 in
theorem open_shift {v:Value} {d:DataW H} {ps:List MemPlace} (hval:Value.okWide Try.prog W r base 43 v) (h:DataW.Trod enc Try.prog W b0 spare held 43 v d ps):∃ s:S,v=.agg #[.int .i64 s.day,.int .i64 s.depot,.int .i64 s.start,.int .i64 s.end_,.int .i64 s.tare,.slice s.A s.n s.c]∧Ints W s.A s.n s.l:=by
 obtain ⟨cs,rfl,hsz⟩:=okWide_struct Try.underlying43 hval
 obtain ⟨fuel,hf⟩:=h
 obtain ⟨ys,n',_,_,hlen,hyl,hfl⟩:=DataW.trod_struct Try.underlying43 hf
 rw [show Try.prog.cellsOf 43=6 by kernel_rfl] at hsz
 obtain ⟨v0,v1,v2,v3,v4,v5,rfl⟩:∃ v0 v1 v2 v3 v4 v5,cs=#[v0,v1,v2,v3,v4,v5]:=by
  obtain ⟨l⟩:=cs
  rcases l with _ | ⟨v0,_ | ⟨v1,_ | ⟨v2,_ | ⟨v3,_ | ⟨v4,_ | ⟨v5,_ | ⟨v6,l⟩⟩⟩⟩⟩⟩⟩ <;> simp at hsz
  exact ⟨_,_,_,_,_,_,rfl⟩
 have C3:Try.prog.cellsOf 3=1:=by kernel_rfl
 have C22:Try.prog.cellsOf 41=1:=by kernel_rfl
 have get:∀ i,i < ys.length→∃ y,ys[i]? = some y:=fun i hi=>⟨_,List.getElem?_eq_getElem hi⟩
 have h6:ys.length=6:=hyl
 have t0:=hfl 0 _ rfl
 have t1:=hfl 1 _ rfl
 have t2:=hfl 2 _ rfl
 have t3:=hfl 3 _ rfl
 have t4:=hfl 4 _ rfl
 have t5:=hfl 5 _ rfl
 obtain ⟨y0,g0⟩:=get 0 (by omega)
 obtain ⟨y1,g1⟩:=get 1 (by omega)
 obtain ⟨y2,g2⟩:=get 2 (by omega)
 obtain ⟨y3,g3⟩:=get 3 (by omega)
 obtain ⟨y4,g4⟩:=get 4 (by omega)
 obtain ⟨y5,g5⟩:=get 5 (by omega)
 rw [g0] at t0
 rw [g1] at t1
 rw [g2] at t2
 rw [g3] at t3
 rw [g4] at t4
 rw [g5] at t5
 simp [C3,C22,Value.cells] at t0 t1 t2 t3 t4 t5
 obtain ⟨n0,e0,_⟩:=DataW.trod_int Try.underlying3 t0
 obtain ⟨n1,e1,_⟩:=DataW.trod_int Try.underlying3 t1
 obtain ⟨n2,e2,_⟩:=DataW.trod_int Try.underlying3 t2
 obtain ⟨n3,e3,_⟩:=DataW.trod_int Try.underlying3 t3
 obtain ⟨n4,e4,_⟩:=DataW.trod_int Try.underlying3 t4
 obtain ⟨A,n,c,l,e5,hI⟩:=ints_of_trod t5
 simp at e0 e1 e2 e3 e4 e5
 subst e0 e1 e2 e3 e4 e5
 exact ⟨⟨n0,n1,n2,n3,n4,A,n,c,l⟩,rfl,hI⟩
end
end Go.Proofs.Ytippdjmpkafifaa
namespace Go.Proofs.Ytippdjmpkafifaa
open Go.ChangeShapes Go.WideShapes Go.Deep Go.RowKit
section
variable {H : Type} {enc : TypeId × Value → H} {W : World} {base b0 : Nat} {spare : Nat → Bool} {held : Bool} {r : Reach}
theorem roads_cell {w:World} {ad:Addr} {l:List Ro} (h:∀ i q,l[i]? = some q→∀ j u,(roadCells q)[j]? = some u→w.cell? (ad.add (i * 4 + j))=some u) :
  ∀ j u,(l.flatMap roadCells)[j]? = some u→w.cell? (ad.add j)=some u:=by
 intro j u hu
 have hj:j < (l.flatMap roadCells).length:=(List.getElem?_eq_some_iff.1 hu).1
 rw [flat_len roadCells 4 (fun _=>rfl)] at hj
 have hp:l[j / 4]? = some (l[j / 4]'(by omega)):=List.getElem?_eq_getElem (by omega)
 have hjj:j=j / 4 * 4 + j % 4:=by omega
 have g:=flat_get roadCells 4 (fun _=>rfl) l _ _ hp (j % 4) (by omega)
 rw [←hjj,hu] at g
 have:=h _ _ hp (j % 4) u g.symm
 rwa [←hjj] at this
set_option maxRecDepth 100000 in
theorem roads_of_trod {fuel:Nat} {v:Value} {x:DataW H × List MemPlace} (hf:DataW.trod enc Try.prog W b0 spare held fuel 22 [v] = some x):∃ A n c l,v=.slice A n c∧Roads W A n l:=by
 rcases open_slice_fields Try.underlying22 Try.underlying129 (by kernel_rfl) (by kernel_rfl) hf with ⟨hcs,_⟩ | ⟨a,len,cap,m,D,Pl,hcs,_,hlc,_,hm,_,hcell⟩
 ·simp at hcs
  subst hcs
  exact ⟨none,0,0,[],rfl,rfl,rfl,fun h0=>absurd h0 (by omega)⟩
 ·simp at hcs
  subst hcs
  have hlm:len≤m:=by rw [hm];split <;> omega
  have key:∀ i,i < len→∃ q:Ro,∀ j u,(roadCells q)[j]? = some u→W.cell? (a.add (i * 4 + j))=some u:=by
   intro i hi
   obtain ⟨ys,n,_,_,_,hfld⟩:=hcell i (by omega)
   obtain ⟨v0,y0,c0,_,t0⟩:=hfld 0 _ rfl
   obtain ⟨v1,y1,c1,_,t1⟩:=hfld 1 _ rfl
   obtain ⟨v2,y2,c2,_,t2⟩:=hfld 2 _ rfl
   obtain ⟨v3,y3,c3,_,t3⟩:=hfld 3 _ rfl
   obtain ⟨n0,e0,_⟩:=DataW.trod_int Try.underlying3 t0
   obtain ⟨n1,e1,_⟩:=DataW.trod_int Try.underlying3 t1
   obtain ⟨n2,e2,_⟩:=DataW.trod_int Try.underlying3 t2
   obtain ⟨n3,e3,_⟩:=DataW.trod_int Try.underlying3 t3
   simp at e0 e1 e2 e3
   subst e0 e1 e2 e3
   refine ⟨⟨n0,n1,n2,n3⟩,?_⟩
   intro j u hu
   rcases j with _ | _ | _ | _ | j <;> simp [roadCells] at hu <;> subst hu <;> assumption
  obtain ⟨l,hl,hq⟩:=list_of key
  exact ⟨_,_,_,l,rfl,hl.symm,by rw [flat_len roadCells 4 (fun _=>rfl),hl],fun _=>⟨a,rfl,roads_cell fun i q hi=>hq i q hi⟩⟩
set_option maxRecDepth 100000 in
theorem open_net {v:Value} {d:DataW H} {ps:List MemPlace} (hval:Value.okWide Try.prog W r base 24 v) (h:DataW.Trod enc Try.prog W b0 spare held 24 v d ps):∃ nd A n c l,v=.agg #[.int .i64 nd,.slice A n c]∧Roads W A n l:=by
 obtain ⟨cs,rfl,hsz⟩:=okWide_struct Try.underlying24 hval
 obtain ⟨fuel,hf⟩:=h
 obtain ⟨ys,n',_,_,hlen,hyl,hfl⟩:=DataW.trod_struct Try.underlying24 hf
 rw [show Try.prog.cellsOf 24=2 by kernel_rfl] at hsz
 obtain ⟨v0,v1,rfl⟩:∃ v0 v1,cs=#[v0,v1]:=by
  obtain ⟨l⟩:=cs
  rcases l with _ | ⟨v0,_ | ⟨v1,_ | ⟨v2,l⟩⟩⟩ <;> simp at hsz
  exact ⟨_,_,rfl⟩
 have C3:Try.prog.cellsOf 3=1:=by kernel_rfl
 have C22:Try.prog.cellsOf 22=1:=by kernel_rfl
 have get:∀ i,i < ys.length→∃ y,ys[i]? = some y:=fun i hi=>⟨_,List.getElem?_eq_getElem hi⟩
 have h2:ys.length=2:=hyl
 have t0:=hfl 0 _ rfl
 have t1:=hfl 1 _ rfl
 obtain ⟨y0,g0⟩:=get 0 (by omega)
 obtain ⟨y1,g1⟩:=get 1 (by omega)
 rw [g0] at t0
 rw [g1] at t1
 simp [C3,C22,Value.cells] at t0 t1
 obtain ⟨n0,e0,_⟩:=DataW.trod_int Try.underlying3 t0
 obtain ⟨A,n,c,l,e1,hI⟩:=roads_of_trod t1
 simp at e0 e1
 subst e0 e1
 exact ⟨n0,A,n,c,l,rfl,hI⟩
end
end Go.Proofs.Ytippdjmpkafifaa
