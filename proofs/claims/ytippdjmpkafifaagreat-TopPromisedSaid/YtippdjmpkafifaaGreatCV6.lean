import Derived.Test.YtippdjmpkafifaaGreatCV5
import Derived.Laws.CopyOwn
namespace Go.Proofs.YtippdjmpkafifaaGreat
open Go.RowKit
theorem wrap_pow_all:∀ k:Fin 8,IntKind.i64.wrap ((2:Int) ^ k.val)=2 ^ k.val:=by decide +kernel
theorem wrap_pow {k:Nat} (hk:k < 8):IntKind.i64.wrap ((2:Int) ^ k)=2 ^ k:=wrap_pow_all ⟨k,hk⟩
structure Elem (p:PS) (i j:Nat) (q:Q):Prop where
 set:p.l[i]? = some (j:Int)
 req:p.x.r[j]? = some q
theorem Elem.lt {w:World} {b mb:Nat} {p:PS} {i j:Nat} {q:Q} {X:Nat→Prop} (h:Elem p i j q) (hp:PAt w b mb p X):i < p.n∧j < p.x.m:=by
 have h1:=(List.getElem?_eq_some_iff.1 h.set).1
 have h2:=(List.getElem?_eq_some_iff.1 h.req).1
 exact ⟨by rw [hp.set.1];exact h1,by rw [hp.at_.reqs.1];exact h2⟩
theorem Elem.cells {w:World} {b mb:Nat} {p:PS} {i j:Nat} {q:Q} {X:Nat→Prop} (h:Elem p i j q) (hp:PAt w b mb p X) :
  ∃ ads ad,p.A=some ads∧p.x.B=some ad∧Wins w q.A q.n q.l∧w.cell? (ads.add i)=some (.int .i64 (j:Int))∧w.cell? (ad.add (j * 7))=some (.int .i64 q.node) ∧
   w.cell? ⟨(ad.add (j * 7)).block,(ad.add (j * 7)).off + 1,none⟩=some (.int .i64 q.room) ∧
   w.cell? ⟨(ad.add (j * 7)).block,(ad.add (j * 7)).off + 2,none⟩=some (.int .i64 q.kilos) ∧
   w.cell? ⟨(ad.add (j * 7)).block,(ad.add (j * 7)).off + 3,none⟩=some (.int .i64 q.service) ∧
   w.cell? ⟨(ad.add (j * 7)).block,(ad.add (j * 7)).off + 4,none⟩=some (.int .i64 q.frm) ∧
   w.cell? ⟨(ad.add (j * 7)).block,(ad.add (j * 7)).off + 5,none⟩=some (.int .i64 q.by_) ∧
   w.cell? ⟨(ad.add (j * 7)).block,(ad.add (j * 7)).off + 6,none⟩=some (.slice q.A q.n q.c):=by
 obtain ⟨hi,hj⟩:=h.lt hp
 obtain ⟨ads,y,hA,hy,cy⟩:=hp.set.at_ hi
 rw [h.set] at hy
 injection hy with hy
 subst hy
 obtain ⟨ad,q',hB,hgq,hwq,e0,e1,e2,e3,e4,e5,e6⟩:=hp.at_.reqs.at_ hj
 rw [h.req] at hgq
 injection hgq with hgq
 subst hgq
 exact ⟨ads,ad,hA,hB,hwq,cy,e0,e1,e2,e3,e4,e5,e6⟩
set_option maxRecDepth 100000 in
set_option maxHeartbeats 4000000 in
theorem node_any (b mb:Nat) (p:PS) (i j:Nat) (q:Q) (w:World) {X:Nat→Prop} (hp:PAt w b mb p X) (he:Elem p i j q) :
  Calls Tryz.prog 142 #[.pointer (some ⟨b,0,none⟩),.int .i64 i] w fun e w'=>e=.returned (.int .i64 q.node)∧Below w.heap.size w w':=by
 obtain ⟨c0,c1,c2,c3,c4,c5,c6,c7,c8,c9,c10⟩:=hp.blk.cells
 obtain ⟨hi,hj⟩:=he.lt hp
 obtain ⟨ads,ad,hA,hB,-,y,e0,-⟩:=he.cells hp
 have k0:(0:Int)≤(i:Int):=by omega
 have k1:(i:Int) < (p.n:Int):=by omega
 have k2:(0:Int)≤(j:Int):=by omega
 have k3:(j:Int) < (p.x.m:Int):=by omega
 rw [hA] at c9
 rw [hB] at c8
 clear hA hB
 go_enter Tryz.func142,Tryz.ntmps142
 go_wp2_with fail
 go_quiet (fail)
 go_wp2_with fail
 go_ret
 exact ⟨rfl,below_drewN (Below.refl _ _) _⟩
def LE (w:World) (b mb:Nat) (p:PS) (i j:Nat) (q:Q) (ads ad:Addr) (w':World):Prop:=Below w.heap.size w w'∧w'.cell? ⟨b,0,none⟩=some (.int .i64 p.x.nd)∧w'.cell? ⟨b,1,none⟩=some (.slice p.x.A p.x.n p.x.c)∧w'.cell? ⟨b,2,none⟩=some (.int .i64 p.x.s.day)∧w'.cell? ⟨b,3,none⟩=some (.int .i64 p.x.s.depot)∧w'.cell? ⟨b,4,none⟩=some (.int .i64 p.x.s.start) ∧
  w'.cell? ⟨b,5,none⟩=some (.int .i64 p.x.s.end_)∧w'.cell? ⟨b,6,none⟩=some (.int .i64 p.x.s.tare)∧w'.cell? ⟨b,7,none⟩=some (.slice p.x.s.A p.x.s.n p.x.s.c)∧w'.cell? ⟨b,8,none⟩=some (.slice (some ad) p.x.m p.x.d)∧w'.cell? ⟨b,9,none⟩=some (.slice (some ads) p.n p.c)∧w'.cell? ⟨b,10,none⟩=some (.map (some mb))∧w'.cell? (ads.add i)=some (.int .i64 (j:Int))∧w'.cell? (ad.add (j * 7))=some (.int .i64 q.node) ∧
   w'.cell? ⟨(ad.add (j * 7)).block,(ad.add (j * 7)).off + 1,none⟩=some (.int .i64 q.room) ∧
   w'.cell? ⟨(ad.add (j * 7)).block,(ad.add (j * 7)).off + 2,none⟩=some (.int .i64 q.kilos) ∧
   w'.cell? ⟨(ad.add (j * 7)).block,(ad.add (j * 7)).off + 3,none⟩=some (.int .i64 q.service) ∧
   w'.cell? ⟨(ad.add (j * 7)).block,(ad.add (j * 7)).off + 4,none⟩=some (.int .i64 q.frm) ∧
   w'.cell? ⟨(ad.add (j * 7)).block,(ad.add (j * 7)).off + 5,none⟩=some (.int .i64 q.by_) ∧
   w'.cell? ⟨(ad.add (j * 7)).block,(ad.add (j * 7)).off + 6,none⟩=some (.slice q.A q.n q.c)
theorem LE.mk' {w:World} {b mb:Nat} {p:PS} {i j:Nat} {q:Q} {ads ad:Addr} {X:Nat→Prop} (hp:PAt w b mb p X) (he:Elem p i j q) (hA:p.A=some ads) (hB:p.x.B=some ad) {w':World} (hb:Below w.heap.size w w'):LE w b mb p i j q ads ad w':=by
 have h:=hp.below hb
 obtain ⟨ads',ad',hA',hB',-,hc⟩:=he.cells h
 rw [hA] at hA';injection hA' with hA';subst hA'
 rw [hB] at hB';injection hB' with hB';subst hB'
 obtain ⟨d0,d1,d2,d3,d4,d5,d6,d7,d8,d9,d10⟩:=h.blk.cells
 rw [hA] at d9
 rw [hB] at d8
 exact ⟨hb,d0,d1,d2,d3,d4,d5,d6,d7,d8,d9,d10,hc⟩
namespace K
def begins (s:S) (r:List Q) (q:Q) (all:List Int) (arr:Int):Int × Bool :=
 if s.day < q.frm∨q.by_ < s.day∨s.end_ < arr∨T.fits s r all=false then (0,false)
 else ((H.fit q.l arr q.service).1,(H.fit q.l arr q.service).2 && decide ((H.fit q.l arr q.service).1 + q.service≤s.end_))
end K
def Beg (p:PS) (q:Q) (all:List Int) (arr:Int) (w w':World) (e:Ending):Prop:=e=.returned (.tuple #[.int .i64 (K.begins p.x.s p.x.r q all arr).1,.bool (K.begins p.x.s p.x.r q all arr).2])∧Below w.heap.size w w'
theorem beg_mk {p:PS} {q:Q} {all:List Int} {arr t:Int} {ok:Bool} {w w':World} (h:K.begins p.x.s p.x.r q all arr=(t,ok)) (hb:Below w.heap.size w w'):Beg p q all arr w w' (.returned (.tuple #[.int .i64 t,.bool ok])):=⟨by rw [h],hb⟩
set_option maxRecDepth 100000 in
set_option maxHeartbeats 16000000 in
theorem pbegins_any (b mb:Nat) (p:PS) (m i j:Nat) (q:Q) (arr:Int) (w:World) {X:Nat→Prop} (hp:PAt w b mb p X) (he:Elem p i j q) (hm:m < 64) (hmi:m.testBit i=false) (hm2:m + 2 ^ i < 256) (hse:0≤q.service∧q.service≤1000000) :
  Calls Tryz.prog 201 #[.pointer (some ⟨b,0,none⟩),.int .i64 m,.int .i64 i,.int .i64 arr] w fun e w'=>Beg p q (K.part p.l (m + 2 ^ i)) arr w w' e:=by
 obtain ⟨hi,hj⟩:=he.lt hp
 obtain ⟨hne,hck,hdp,hrq,hl6,-⟩:=K.ok31_parts hp.ok
 have hpl:(K.part p.l (m + 2 ^ i)).length≤6:=Nat.le_trans (K.part_len _ _) hl6
 have hn6:p.n≤6:=by rw [hp.set.1];exact hl6
 obtain ⟨ads,ad,hA,hB,hwq,y,e0,e1,e2,e3,e4,e5,e6⟩:=he.cells hp
 have hqn:=hp.at_.b4 q (List.mem_of_getElem? he.req)
 obtain ⟨c2,c3,c4⟩:p.x.s.n≤1000000000∧p.x.m≤1000000000∧∀ q ∈ p.x.r,q.n≤1000000000:=⟨hp.at_.b2,hp.at_.b3,hp.at_.b4⟩
 have k0:(0:Int)≤(i:Int):=by omega
 have k1:(i:Int) < (p.n:Int):=by omega
 have k2:(0:Int)≤(j:Int):=by omega
 have k3:(j:Int) < (p.x.m:Int):=by omega
 clear hne hck hdp hrq hl6
 have S0:=LE.mk' hp he hA hB (Below.refl w.heap.size w)
 have hSd:∀ w',LE w b mb p i j q ads ad w'→LE w b mb p i j q ads ad w'.drew:=fun w' h=>LE.mk' hp he hA hB h.1.drew
 have hSa:∀ w' o',LE w b mb p i j q ads ad w'→LE w b mb p i j q ads ad (w'.alloc o'):=fun w' o' h=>LE.mk' hp he hA hB (bel h.1 ((Below.refl _ _).alloc (Nat.le_refl _) _))
 have hSs:∀ (w':World) (g k:Nat) (v:Value),LE w b mb p i j q ads ad w'→w.heap.size≤g→LE w b mb p i j q ads ad (w'.setCell ⟨g,k,none⟩ v):=fun w' g k v h hg=>LE.mk' hp he hA hB (h.1.setCell hg _)
 have HA:=Lib.hid hA
 have HB:=Lib.hid hB
 clear hA hB y e0 e1 e2 e3 e4 e5 e6
 go_enter Tryz.func201,Tryz.ntmps201
 go_wp2_with fail
 go_cut [10] from 13 to 25 (fun v10 wc=>∃ g,v10=.pointer (some ⟨g,0,none⟩)∧w.heap.size≤g∧QBlk wc g q∧Below w.heap.size w wc)
 case first =>
  go_region_held3 (fun w'=>Below w.heap.size w w'∧w'.cell? ⟨b,0,none⟩=some (.int .i64 p.x.nd)∧w'.cell? ⟨b,1,none⟩=some (.slice p.x.A p.x.n p.x.c)∧w'.cell? ⟨b,2,none⟩=some (.int .i64 p.x.s.day)∧w'.cell? ⟨b,3,none⟩=some (.int .i64 p.x.s.depot)∧w'.cell? ⟨b,4,none⟩=some (.int .i64 p.x.s.start) ∧
  w'.cell? ⟨b,5,none⟩=some (.int .i64 p.x.s.end_)∧w'.cell? ⟨b,6,none⟩=some (.int .i64 p.x.s.tare)∧w'.cell? ⟨b,7,none⟩=some (.slice p.x.s.A p.x.s.n p.x.s.c)∧w'.cell? ⟨b,8,none⟩=some (.slice (some ad) p.x.m p.x.d)∧w'.cell? ⟨b,9,none⟩=some (.slice (some ads) p.n p.c)∧w'.cell? ⟨b,10,none⟩=some (.map (some mb))∧w'.cell? (ads.add i)=some (.int .i64 (j:Int))∧w'.cell? (ad.add (j * 7))=some (.int .i64 q.node) ∧
   w'.cell? ⟨(ad.add (j * 7)).block,(ad.add (j * 7)).off + 1,none⟩=some (.int .i64 q.room) ∧
   w'.cell? ⟨(ad.add (j * 7)).block,(ad.add (j * 7)).off + 2,none⟩=some (.int .i64 q.kilos) ∧
   w'.cell? ⟨(ad.add (j * 7)).block,(ad.add (j * 7)).off + 3,none⟩=some (.int .i64 q.service) ∧
   w'.cell? ⟨(ad.add (j * 7)).block,(ad.add (j * 7)).off + 4,none⟩=some (.int .i64 q.frm) ∧
   w'.cell? ⟨(ad.add (j * 7)).block,(ad.add (j * 7)).off + 5,none⟩=some (.int .i64 q.by_) ∧
   w'.cell? ⟨(ad.add (j * 7)).block,(ad.add (j * 7)).off + 6,none⟩=some (.slice q.A q.n q.c))
   (first | assumption | exact S0 | exact hSd _ S0 | exact hSa _ _ (by assumption) | exact hSa _ _ S0 | exact hSd _ (hSa _ _ S0) | exact hSa _ _ (hSd _ S0))
   (fail)
  go_wp2_with fail
  go_meet
  case rel=>exact ⟨_,rfl,Nat.le_refl _,heap_alloc_new _ _,bel (w1:=w.drew) (Below.refl _ _).drew ((Below.refl _ _).alloc (Nat.le_refl _) _)⟩
 case rest =>
  obtain ⟨g,rfl,hg,hQ,hb⟩:=hcut
  have hpc:=hp.below hb
  have hwq:=hwq.below hb
  clear S0 hSd hSa hSs
  obtain ⟨e0,e1,e2,e3,e4,e5,e6⟩:=hQ.cells
  obtain ⟨d0,d1,d2,d3,d4,d5,d6,d7,d8,d9,d10⟩:=hpc.blk.cells
  rw [HB.out] at d8
  rw [HA.out] at d9
  cases x1:decide (p.x.s.day < q.frm)
  rotate_left
  ·have HX:=Lib.hid (show K.begins p.x.s p.x.r q (K.part p.l (m + 2 ^ i)) arr=(0,false) by unfold K.begins;rw [if_pos (.inl (of_decide_eq_true x1))])
   go_wp2_with fail
   go_quiet (fail)
   go_wp2_with fail
   go_ret2
   exact beg_mk HX.out (below_drewN hb _)
  cases x2:decide (q.by_ < p.x.s.day)
  rotate_left
  ·have HX:=Lib.hid (show K.begins p.x.s p.x.r q (K.part p.l (m + 2 ^ i)) arr=(0,false) by unfold K.begins;rw [if_pos (.inr (.inl (of_decide_eq_true x2)))])
   go_wp2_with fail
   go_quiet (fail)
   go_wp2_with fail
   go_ret2
   exact beg_mk HX.out (below_drewN hb _)
  cases x3:decide (p.x.s.end_ < arr)
  rotate_left
  ·have HX:=Lib.hid (show K.begins p.x.s p.x.r q (K.part p.l (m + 2 ^ i)) arr=(0,false) by unfold K.begins;rw [if_pos (.inr (.inr (.inl (of_decide_eq_true x3))))])
   go_wp2_with fail
   go_quiet (fail)
   go_wp2_with fail
   go_ret2
   exact beg_mk HX.out (below_drewN hb _)
  have HD:=Lib.hid (show ¬ p.x.s.day < q.frm∧¬ q.by_ < p.x.s.day∧¬ p.x.s.end_ < arr from ⟨of_decide_eq_false x1,of_decide_eq_false x2,of_decide_eq_false x3⟩)
  obtain ⟨mm,hmm⟩:∃ mm,mm=m + 2 ^ i:=⟨_,rfl⟩
  have hor:bits BinOp.or IntKind.i64 (m:Int) (IntKind.i64.wrap (2 ^ i))=(mm:Int):=by rw [wrap_pow (by omega),bit_or hm (by omega) hmi,hmm]
  rw [←hmm] at hpl hm2
  have HMM:=Lib.hid hmm
  clear hmm d0 d1 d2 d3 d4 d5 d6 d7 d8 d9 d10
  have hmk:∀ w',Below wc.heap.size wc w'→(fun w'=>Below wc.heap.size wc w'∧w'.cell? ⟨g,0,none⟩=some (.int .i64 q.node)∧w'.cell? ⟨g,1,none⟩=some (.int .i64 q.room)∧w'.cell? ⟨g,2,none⟩=some (.int .i64 q.kilos)∧w'.cell? ⟨g,3,none⟩=some (.int .i64 q.service)∧w'.cell? ⟨g,4,none⟩=some (.int .i64 q.frm)∧w'.cell? ⟨g,5,none⟩=some (.int .i64 q.by_)∧w'.cell? ⟨g,6,none⟩=some (.slice q.A q.n q.c)∧w'.cell? ⟨b,0,none⟩=some (.int .i64 p.x.nd)∧w'.cell? ⟨b,1,none⟩=some (.slice p.x.A p.x.n p.x.c)∧w'.cell? ⟨b,2,none⟩=some (.int .i64 p.x.s.day)∧w'.cell? ⟨b,3,none⟩=some (.int .i64 p.x.s.depot)∧w'.cell? ⟨b,4,none⟩=some (.int .i64 p.x.s.start) ∧
  w'.cell? ⟨b,5,none⟩=some (.int .i64 p.x.s.end_)∧w'.cell? ⟨b,6,none⟩=some (.int .i64 p.x.s.tare)∧w'.cell? ⟨b,7,none⟩=some (.slice p.x.s.A p.x.s.n p.x.s.c)∧w'.cell? ⟨b,8,none⟩=some (.slice (some ad) p.x.m p.x.d)∧w'.cell? ⟨b,9,none⟩=some (.slice (some ads) p.n p.c)∧w'.cell? ⟨b,10,none⟩=some (.map (some mb))) w':=fun w' h=>by
   have h2:=(hpc.below h).blk.cells
   obtain ⟨d0,d1,d2,d3,d4,d5,d6,d7,d8,d9,d10⟩:=h2
   rw [HB.out] at d8
   rw [HA.out] at d9
   exact ⟨h,(hQ.below h).cells.1,(hQ.below h).cells.2.1,(hQ.below h).cells.2.2.1,(hQ.below h).cells.2.2.2.1,(hQ.below h).cells.2.2.2.2.1,(hQ.below h).cells.2.2.2.2.2.1,(hQ.below h).cells.2.2.2.2.2.2,d0,d1,d2,d3,d4,d5,d6,d7,d8,d9,d10⟩
  have S0:=hmk _ (Below.refl _ _)
  have S0d:=hmk _ (Below.refl wc.heap.size wc).drew
  clear e0 e1 e2 e3 e4 e5 e6
  go_wp2_with fail
  go_region_held3 (fun w'=>Below wc.heap.size wc w'∧w'.cell? ⟨g,0,none⟩=some (.int .i64 q.node)∧w'.cell? ⟨g,1,none⟩=some (.int .i64 q.room)∧w'.cell? ⟨g,2,none⟩=some (.int .i64 q.kilos)∧w'.cell? ⟨g,3,none⟩=some (.int .i64 q.service)∧w'.cell? ⟨g,4,none⟩=some (.int .i64 q.frm)∧w'.cell? ⟨g,5,none⟩=some (.int .i64 q.by_)∧w'.cell? ⟨g,6,none⟩=some (.slice q.A q.n q.c)∧w'.cell? ⟨b,0,none⟩=some (.int .i64 p.x.nd)∧w'.cell? ⟨b,1,none⟩=some (.slice p.x.A p.x.n p.x.c)∧w'.cell? ⟨b,2,none⟩=some (.int .i64 p.x.s.day)∧w'.cell? ⟨b,3,none⟩=some (.int .i64 p.x.s.depot)∧w'.cell? ⟨b,4,none⟩=some (.int .i64 p.x.s.start) ∧
  w'.cell? ⟨b,5,none⟩=some (.int .i64 p.x.s.end_)∧w'.cell? ⟨b,6,none⟩=some (.int .i64 p.x.s.tare)∧w'.cell? ⟨b,7,none⟩=some (.slice p.x.s.A p.x.s.n p.x.s.c)∧w'.cell? ⟨b,8,none⟩=some (.slice (some ad) p.x.m p.x.d)∧w'.cell? ⟨b,9,none⟩=some (.slice (some ads) p.n p.c)∧w'.cell? ⟨b,10,none⟩=some (.map (some mb)))
   (first | assumption | exact S0 | exact S0d)
   (first
    | (go_at_call 191;refine (part_any b mb p mm wc.drew (hpc.below (Below.refl _ _).drew) hm2).mono ?_;rintro e w3 ⟨⟨A9,n9,c9,rfl,hI⟩,hbn⟩;have hb3:=bel (w1:=wc.drew) (Below.refl wc.heap.size wc).drew hbn;have S3:=hmk _ hb3)
    | (go_at_call 121;refine (fits_any p.x.s (some ad) p.x.m p.x.d p.x.r A9 n9 c9 (K.part p.l mm) w3 (hpc.below hb3).at_.rooms c2 (by rw [←HB.out];exact (hpc.below hb3).at_.reqs) c3 c4 hI (by rw [hI.1];omega)).mono ?_;rintro e w4 ⟨rfl,hbn2⟩;have hb4:=bel hb3 hbn2;have S4:=hmk _ hb4)
    | fail)
  have hb:=bel hb hb4
  have hpc:=hpc.below hb4
  have hQ:=hQ.below hb4
  have hwq:=hwq.below hb4
  clear S0 S0d S3 S4 hmk hb3 hb4 hbn hbn2 hI x1 x2 x3
  cases hf:T.fits p.x.s p.x.r (K.part p.l mm)
  ·have HX:=Lib.hid (show K.begins p.x.s p.x.r q (K.part p.l (m + 2 ^ i)) arr=(0,false) by unfold K.begins;rw [←HMM.out,if_pos (.inr (.inr (.inr hf)))])
   clear hf
   go_wp2_with fail
   go_ret2
   exact beg_mk HX.out hb
  have HF:=Lib.hid (show ¬ (p.x.s.day < q.frm∨q.by_ < p.x.s.day∨p.x.s.end_ < arr∨T.fits p.x.s p.x.r (K.part p.l mm)=false) by
   obtain ⟨h1,h2,h3⟩:=HD.out
   rw [hf]
   simp [h1,h2,h3])
  clear hf
  obtain ⟨e0,e1,e2,e3,e4,e5,e6⟩:=hQ.cells
  go_wp2_with fail
  refine (fit_any q.A q.n q.c q.l arr q.service _ hwq hqn).mono ?_
  rintro e w5 ⟨rfl,b5⟩
  have hb:=bel hb b5
  have hpc:=hpc.below b5
  have hQ:=hQ.below b5
  clear b5 e0 e1 e2 e3 e4 e5 e6 hwq
  have HFO:=Lib.hid (fun h=>H.fit_ok (l:=q.l) (t:=arr) (s:=q.service) h)
  obtain ⟨fb,hfb⟩:∃ fb,fb=(H.fit q.l arr q.service).1:=⟨_,rfl⟩
  obtain ⟨ok,hok⟩:∃ ok,ok=(H.fit q.l arr q.service).2:=⟨_,rfl⟩
  rw [←hfb,←hok]
  have HX:=Lib.hid (show K.begins p.x.s p.x.r q (K.part p.l (m + 2 ^ i)) arr=(fb,ok && decide (fb + q.service≤p.x.s.end_)) by unfold K.begins;rw [←HMM.out,if_neg HF.out,←hfb,←hok])
  have HFB:=Lib.hid hfb
  have HOK:=Lib.hid hok
  clear hfb hok
  obtain ⟨e0,e1,e2,e3,e4,e5,e6⟩:=hQ.cells
  obtain ⟨d0,d1,d2,d3,d4,d5,d6,d7,d8,d9,d10⟩:=hpc.blk.cells
  cases ok
  ·go_wp2_with fail
   go_quiet (fail)
   go_wp2_with fail
   go_ret2
   exact beg_mk HX.out (below_drewN hb _)
  ·obtain ⟨-,-,-,hf1,hf2⟩:=HFO.out (by rw [←HOK.out])
   obtain ⟨-,g2,-⟩:=H.fit_ok (l:=q.l) (t:=arr) (s:=q.service) (by rw [←HOK.out])
   rw [←HFB.out] at hf1 hf2
   have hwrap:IntKind.i64.wrap (fb + q.service)=fb + q.service:=IntWalk.i64_in _ (by omega)
   go_wp2_with fail
   go_quiet (fail)
   go_wp2_with fail
   go_ret2
   exact beg_mk HX.out (below_drewN hb _)
namespace K
def noted (y first t:Int):Int:=if y ≠ -1∧t ≠ -1∧(first=-1∨t + y < first) then t + y else first
theorem noted_no1 {y first t:Int} (h:y=-1):noted y first t=first:=by unfold noted;rw [if_neg (by simp [h])]
theorem noted_no2 {y first t:Int} (h:t=-1):noted y first t=first:=by unfold noted;rw [if_neg (by simp [h])]
theorem noted_no3 {y first t:Int} (h:¬ first=-1) (h2:¬ t + y < first):noted y first t=first:=by unfold noted;rw [if_neg (by simp [h,h2])]
theorem noted_yes {y first t:Int} (h1:¬ y=-1) (h2:¬ t=-1) (h:first=-1∨t + y < first):noted y first t=t + y:=by unfold noted;rw [if_pos ⟨h1,h2,h⟩]
end K
structure But2 (w w':World) (mb g:Nat):Prop where
 os:w'.os=w.os
 tape:w'.tape=w.tape
 output:w'.output=w.output
 size:w.heap.size≤w'.heap.size
 block:∀ k,k < w.heap.size→k ≠ mb→k ≠ g→w'.heap[k]? = w.heap[k]?
theorem But2.of {w w':World} {mb g:Nat} (h:w.grownBy w' (some mb)):But2 w w' mb g:=⟨h.os,h.tape,h.output,h.size,fun k hk hne _=>h.block k hk (fun e=>hne (by injection e))⟩
theorem But2.set {w w':World} {mb g:Nat} (h:But2 w w' mb g) (i:Nat) (v:Value):But2 w (w'.setCell ⟨g,i,none⟩ v) mb g :=
 ⟨h.os,h.tape,h.output,by rw [World.size_setCell];exact h.size,fun k hk hne hg=>(Below.heap_setCell w' _ _ k (fun e=>hg e)).trans (h.block k hk hne hg)⟩
def Noted (w w':World) (mb g10:Nat) (p:PS) (X:Nat→Prop) (first:Int) (e:Ending):Prop :=
 e=.returned (.tuple #[])∧But2 w w' mb g10∧Memo w' mb p.x.nd p.x.l X∧w'.heap[g10]? = some (.cells #[.int .i64 first] 3 (0,0))
set_option maxRecDepth 100000 in
set_option maxHeartbeats 16000000 in
theorem note_any (b mb:Nat) (p:PS) (i j:Nat) (q:Q) (m:Nat) (fr t first:Int) (g4 g7 g9 g10:Nat) (w:World) {X:Nat→Prop} (hp:PAt w b mb p X) (hX:∀ g,X g→g < w.heap.size)
  (h4:w.heap[g4]? = some (.cells #[.pointer (some ⟨b,0,none⟩)] 162 (0,0))) (h7:w.heap[g7]? = some (.cells #[.int .i64 (i:Int)] 3 (0,0))) (h9:w.heap[g9]? = some (.cells #[.int .i64 (m:Int)] 3 (0,0))) (h10:w.heap[g10]? = some (.cells #[.int .i64 first] 3 (0,0))) (hXg:X g10)
  (he:Elem p i j q) (hm:m < 256) (hfr:0≤fr∧fr < p.x.nd) (hto:0≤q.node∧q.node < p.x.nd) (hwt:(Lit.int .i64 (T.weight p.x.s p.x.r (K.part p.l m))).wf=true) (ht:-1≤t∧t≤1000000) :
  Calls Tryz.prog 204 #[.int .i64 fr,.int .i64 t,.pointer (some ⟨g4,0,none⟩),.pointer (some ⟨g7,0,none⟩),.pointer (some ⟨g9,0,none⟩),.pointer (some ⟨g10,0,none⟩)] w fun e w'=>Noted w w' mb g10 p X (K.noted (K.way p.x.nd p.x.l fr (T.weight p.x.s p.x.r (K.part p.l m)) q.node) first t) e:=by
 obtain ⟨tn,htn⟩:∃ tn:Nat,q.node=(tn:Int):=⟨q.node.toNat,by omega⟩
 have hpd:=hp.below (w':=w.drew) (Below.refl _ _).drew
 have CN:=node_any b mb p i j q w.drew hpd he
 rw [htn] at CN ⊢
 have htn2:(tn:Int) < p.x.nd:=by omega
 have S0:w.cell? ⟨g4,0,none⟩=some (.pointer (some ⟨b,0,none⟩))∧w.cell? ⟨g7,0,none⟩=some (.int .i64 (i:Int))∧w.cell? ⟨g9,0,none⟩=some (.int .i64 (m:Int)):=⟨blk_cell h4 0 _ rfl,blk_cell h7 0 _ rfl,blk_cell h9 0 _ rfl⟩
 have hS:∀ w',Ext w w'→w'.cell? ⟨g4,0,none⟩=some (.pointer (some ⟨b,0,none⟩))∧w'.cell? ⟨g7,0,none⟩=some (.int .i64 (i:Int))∧w'.cell? ⟨g9,0,none⟩=some (.int .i64 (m:Int)):=fun w' h=>⟨h.cell S0.1,h.cell S0.2.1,h.cell S0.2.2⟩
 have S0d:=hS w.drew (Ext.below (Below.refl w.heap.size w).drew)
 go_enter Tryz.func204,Tryz.ntmps204
 go_wp2_with fail
 go_region_held3 (fun w'=>w'.cell? ⟨g4,0,none⟩=some (.pointer (some ⟨b,0,none⟩))∧w'.cell? ⟨g7,0,none⟩=some (.int .i64 (i:Int))∧w'.cell? ⟨g9,0,none⟩=some (.int .i64 (m:Int)))
  (first | assumption | exact S0 | exact S0d)
  (first
   | (go_at_call 142;refine CN.mono ?_;rintro e w1 ⟨rfl,b1⟩;have hd1:Below w.heap.size w w1:=bel (w1:=w.drew) (Below.refl _ _).drew b1;have hp1:=hp.below hd1;have S1:=hS w1 (Ext.below hd1))
   | (go_at_call 141;refine (way_any b mb p fr tn m w1 hp1 (fun g hg=>Nat.lt_of_lt_of_le (hX g hg) hd1.size) hm hfr htn2 hwt).mono ?_;rintro e w2 ⟨rfl,hW⟩;have hx2:=(Ext.below hd1).trans (hW.ext hp1);have S2:=hS w2 hx2)
   | fail)
 have hyb:=K.way_bd p.x.nd p.x.l fr (T.weight p.x.s p.x.r (K.part p.l m)) tn
 obtain ⟨y,hy⟩:∃ y,y=K.way p.x.nd p.x.l fr (T.weight p.x.s p.x.r (K.part p.l m)) tn:=⟨_,rfl⟩
 rw [←hy] at hyb ⊢
 have HY:=Lib.hid hy
 obtain ⟨hy0,hy1⟩:=hyb
 have h10x:=hx2.cells _ _ _ _ h10
 have hBut:But2 w w2 mb g10:=But2.of (grow_below (grow_refl w _) hd1 |> fun h=>grow_step h hW.1 (.inl rfl))
 have hMm:=hW.2.memo
 have hne:g10 ≠ mb:=fun e=>by
  obtain ⟨es,clock,hmb,-⟩:=hMm
  rw [←e,h10x] at hmb
  cases hmb
 have f10:=blk_cell h10x 0 _ rfl
 have z10:=blk_free h10x 0
 have hwrap:IntKind.i64.wrap (t + y)=t + y:=IntWalk.i64_in _ (by omega)
 have hset:Noted w (w2.setCell ⟨g10,0,none⟩ (.int .i64 (t + y))) mb g10 p X (t + y) (.returned (.tuple #[])):=⟨rfl,hBut.set _ _,hMm.set hXg hne 0 _,blk_set h10x 0 _⟩
 have hkeep:Noted w w2 mb g10 p X first (.returned (.tuple #[])):=⟨rfl,hBut,hMm,h10x⟩
 have HSET:=Lib.hid hset
 have HKEEP:=Lib.hid hkeep
 clear hset hkeep hy S0 S0d S1 S2 hS CN hBut hne
 cases c1:(y == -1)
 rotate_left
 ·have hb1:(y != -1)=false:=by simp [bne,c1]
  have HX:=Lib.hid (K.noted_no1 (first:=first) (t:=t) (show y=-1 by simpa using c1))
  clear c1
  go_wp2_with fail
  refine bodyPost_end (results_none rfl _ _ _) rfl ?_
  rw [←HY.out,HX.out]
  exact HKEEP.out
 have hb1:(y != -1)=true:=by simp [bne,c1]
 have hn1:¬ y=-1:=by simpa using c1
 cases c2:(t == -1)
 rotate_left
 ·have hb2:(t != -1)=false:=by simp [bne,c2]
  have HX:=Lib.hid (K.noted_no2 (first:=first) (y:=y) (show t=-1 by simpa using c2))
  clear c2
  go_wp2_with fail
  refine bodyPost_end (results_none rfl _ _ _) rfl ?_
  rw [←HY.out,HX.out]
  exact HKEEP.out
 have hb2:(t != -1)=true:=by simp [bne,c2]
 have hn2:¬ t=-1:=by simpa using c2
 cases c3:(first == -1)
 ·have hn3:¬ first=-1:=by simpa using c3
  cases c4:decide (t + y < first)
  ·have HX:=Lib.hid (K.noted_no3 (y:=y) (t:=t) hn3 (of_decide_eq_false c4))
   clear c1 c2 hn1 hn2 hn3
   go_wp2_with fail
   refine bodyPost_end (results_none rfl _ _ _) rfl ?_
   rw [←HY.out,HX.out]
   exact HKEEP.out
  ·have HX:=Lib.hid (K.noted_yes (first:=first) hn1 hn2 (.inr (of_decide_eq_true c4)))
   clear c1 c2 hn1 hn2 hn3
   go_wp2_with fail
   refine bodyPost_end (results_none rfl _ _ _) rfl ?_
   rw [←HY.out,HX.out]
   exact HSET.out
 ·have HX:=Lib.hid (K.noted_yes (first:=first) hn1 hn2 (.inl (show first=-1 by simpa using c3)))
  cases c4:decide (t + y < first)
  all_goals
   clear c1 c2 hn1 hn2
   go_wp2_with fail
   refine bodyPost_end (results_none rfl _ _ _) rfl ?_
   rw [←HY.out,HX.out]
   exact HSET.out
theorem T.weight_wf {s:S} {r:List Q} {l:List Int} (hl:l.length≤1000):(Lit.int .i64 (T.weight s r l)).wf=true:=by
 cases h:T.load s r l
 ·rw [T.weight_no h];exact wf_small (by decide) (by decide)
 ·have:=T.weight_bound h hl
  exact wf_small (by omega) (by omega)
namespace K
def nodes (r:List Q) (v:List Int):List Int:=v.map fun k=>(req r k).node
def firsts (nd:Int) (l:List Ro) (wt tn:Int) (z:List (Int × Int)) (f:Int):Int:=z.foldl (fun f x=>noted (way nd l x.1 wt tn) f x.2) f
def first0 (nd:Int) (l:List Ro) (s:S) (wt tn:Int) (rest:Nat):Int:=if rest=0 then noted (way nd l s.depot wt tn) (-1) s.start else -1
def arrives (nd:Int) (l:List Ro) (s:S) (r:List Q) (v:List Int) (row:List Int) (rest:Nat) (q:Q):Int :=
 firsts nd l (T.weight s r (part v rest)) q.node ((nodes r v).zip row) (first0 nd l s (T.weight s r (part v rest)) q.node rest)
def labelOf (s:S) (r:List Q) (q:Q) (all:List Int) (first:Int):Int:=if first=-1 then -1 else if (begins s r q all first).2=true then (begins s r q all first).1 + q.service else -1
def label (nd:Int) (l:List Ro) (s:S) (r:List Q) (v:List Int) (row:List Int) (rest i:Nat) (q:Q):Int:=labelOf s r q (part v (rest + 2 ^ i)) (arrives nd l s r v row rest q)
theorem begins_ok {s:S} {r:List Q} {q:Q} {all:List Int} {arr:Int} (h:(begins s r q all arr).2=true):(s.day < q.frm∨q.by_ < s.day∨s.end_ < arr∨T.fits s r all=false)=False∧(H.fit q.l arr q.service).2=true∧(begins s r q all arr).1=(H.fit q.l arr q.service).1∧0≤arr∧arr≤(begins s r q all arr).1∧(begins s r q all arr).1 + q.service≤s.end_∧(begins s r q all arr).1 + q.service≤1000000:=by
 unfold begins at h ⊢
 by_cases hc:s.day < q.frm∨q.by_ < s.day∨s.end_ < arr∨T.fits s r all=false
 ·rw [if_pos hc] at h;cases h
 ·rw [if_neg hc] at h ⊢
  simp only [Bool.and_eq_true,decide_eq_true_eq] at h
  obtain ⟨-,⟨a0,-⟩,-,g1,g2⟩:=H.fit_ok h.1
  exact ⟨eq_false hc,h.1,rfl,a0,g1,h.2,g2⟩
theorem firsts_snoc {nd:Int} {l:List Ro} {wt tn f:Int} {z:List (Int × Int)} {k:Nat} {x:Int × Int} (h:z[k]? = some x):firsts nd l wt tn (z.take (k + 1)) f=noted (way nd l x.1 wt tn) (firsts nd l wt tn (z.take k) f) x.2:=by
 unfold firsts
 rw [take_snoc h,List.foldl_append]
 rfl
end K
theorem grow_but {w w1 w2:World} {mb g:Nat} (h:w.grownBy w1 (some mb)) (h2:But2 w1 w2 mb g) (hg:w.heap.size≤g):w.grownBy w2 (some mb) :=
 ⟨h2.os.trans h.os,h2.tape.trans h.tape,h2.output.trans h.output,Nat.le_trans h.size h2.size,fun k hk hne=>(h2.block k (Nat.lt_of_lt_of_le hk h.size) (fun e=>hne (by rw [e])) (by omega)).trans (h.block k hk hne)⟩
theorem K.setGo_nodes {nd:Int} {r:List Q}:∀ (v:List Int) (p:Int),K.setGo nd r p v=true→∀ k ∈ v,0≤k∧k < (r.length:Int)∧(K.req r k).node < nd
 | [],_,_=>fun k hk=>by cases hk
 | i :: v,p,h=>fun k hk=>by
  simp only [K.setGo,Bool.and_eq_true,decide_eq_true_eq] at h
  rcases List.mem_cons.1 hk with rfl | hk
  ·exact ⟨h.1,h.2.1,h.2.2.2.1⟩
  ·exact K.setGo_nodes v i h.2.2.2.2 k hk
theorem PAt.elem {w:World} {b mb:Nat} {p:PS} {X:Nat→Prop} (h:PAt w b mb p X) {k:Nat} (hk:k < p.n) :
  ∃ j q,Elem p k j q∧(0≤q.node∧q.node < p.x.nd)∧(0≤q.service∧q.service≤1000000)∧(K.nodes p.x.r p.l)[k]? = some q.node:=by
 obtain ⟨hne,hck,hdp,hrq,hl6,hgo⟩:=K.ok31_parts h.ok
 have hlt:k < p.l.length:=by rw [←h.set.1];exact hk
 have hg:p.l[k]? = some p.l[k]:=List.getElem?_eq_getElem hlt
 obtain ⟨h0,h1,h2⟩:=K.setGo_nodes _ _ hgo _ (List.getElem_mem hlt)
 obtain ⟨j,hj⟩:∃ j:Nat,p.l[k] = (j:Int):=⟨p.l[k].toNat,by omega⟩
 rw [hj] at hg h0 h1 h2
 obtain ⟨q,hq⟩:∃ q,p.x.r[j]? = some q:=⟨_,List.getElem?_eq_getElem (by omega)⟩
 obtain ⟨⟨n0,-⟩,hs,-⟩:=K.right_req (hrq q (List.mem_of_getElem? hq))
 rw [K.req_get hq] at h2
 exact ⟨j,q,⟨hg,hq⟩,⟨n0,h2⟩,hs,by rw [K.nodes,List.getElem?_map,hg];simp [K.req_get hq]⟩
structure LRel (w:World) (b mb rest i:Nat) (p:PS) (X:Nat→Prop) (first:Int) (wr:World):Prop where
 grown:w.grownBy wr (some mb)
 memo:Memo wr mb p.x.nd p.x.l (fun g=>X g∨g=w.heap.size + 1 + 1 + 1)
 g4:wr.heap[w.heap.size]? = some (.cells #[.pointer (some ⟨b,0,none⟩)] 162 (0,0))
 g7:wr.heap[w.heap.size + 1]? = some (.cells #[.int .i64 (i:Int)] 3 (0,0))
 g9:wr.heap[w.heap.size + 1 + 1]? = some (.cells #[.int .i64 (rest:Int)] 3 (0,0))
 g10:wr.heap[w.heap.size + 1 + 1 + 1]? = some (.cells #[.int .i64 first] 3 (0,0))
theorem LRel.pat {w wr:World} {b mb rest i:Nat} {p:PS} {X:Nat→Prop} {first:Int} (h:LRel w b mb rest i p X first wr) (hp:PAt w b mb p X):PAt wr b mb p (fun g=>X g∨g=w.heap.size + 1 + 1 + 1) :=
 (hp.more (Y:=fun g=>X g∨g=w.heap.size + 1 + 1 + 1) (fun g hg hy=>hy.resolve_right (by omega))).keep (hp.memo.ext h.grown) h.memo
theorem LRel.below {w wr w':World} {b mb rest i:Nat} {p:PS} {X:Nat→Prop} {first:Int} (h:LRel w b mb rest i p X first wr) (hb:Below wr.heap.size wr w'):LRel w b mb rest i p X first w' :=
 ⟨grow_below h.grown hb,h.memo.below hb,blk_below hb h.g4,blk_below hb h.g7,blk_below hb h.g9,blk_below hb h.g10⟩
theorem LRel.noted {w wr w':World} {b mb rest i:Nat} {p:PS} {X:Nat→Prop} {first f':Int} {e:Ending} (h:LRel w b mb rest i p X first wr) (hn:Noted wr w' mb (w.heap.size + 1 + 1 + 1) p (fun g=>X g∨g=w.heap.size + 1 + 1 + 1) f' e) (hmb:mb < w.heap.size):LRel w b mb rest i p X f' w':=by
 obtain ⟨-,hB,hM,hg⟩:=hn
 exact ⟨grow_but h.grown hB (by omega),hM,(hB.block _ (lt_of_block h.g4) (by omega) (by omega)).trans h.g4,(hB.block _ (lt_of_block h.g7) (by omega) (by omega)).trans h.g7,(hB.block _ (lt_of_block h.g9) (by omega) (by omega)).trans h.g9,hg⟩
theorem LRel.cells {w wr:World} {b mb rest i:Nat} {p:PS} {X:Nat→Prop} {first:Int} (h:LRel w b mb rest i p X first wr):wr.cell? ⟨w.heap.size,0,none⟩=some (.pointer (some ⟨b,0,none⟩))∧wr.cell? ⟨w.heap.size + 1,0,none⟩=some (.int .i64 (i:Int))∧wr.cell? ⟨w.heap.size + 1 + 1,0,none⟩=some (.int .i64 (rest:Int))∧wr.cell? ⟨w.heap.size + 1 + 1 + 1,0,none⟩=some (.int .i64 first) :=
 ⟨blk_cell h.g4 0 _ rfl,blk_cell h.g7 0 _ rfl,blk_cell h.g9 0 _ rfl,blk_cell h.g10 0 _ rfl⟩
theorem LRel.start {w:World} {b mb:Nat} {p:PS} {X:Nat→Prop} (hp:PAt w b mb p X) (rest i:Nat) :
  LRel w b mb rest i p X (-1) ((((w.alloc (.cells #[.pointer (some ⟨b,0,none⟩)] 162)).alloc (.cells #[.int .i64 (i:Int)] 3)).alloc (.cells #[.int .i64 (rest:Int)] 3)).alloc (.cells #[.int .i64 (-1)] 3)):=by
 have z1:=World.size_alloc w (.cells #[.pointer (some ⟨b,0,none⟩)] 162)
 have z2:=World.size_alloc (w.alloc (.cells #[.pointer (some ⟨b,0,none⟩)] 162)) (.cells #[.int .i64 (i:Int)] 3)
 have z3:=World.size_alloc ((w.alloc (.cells #[.pointer (some ⟨b,0,none⟩)] 162)).alloc (.cells #[.int .i64 (i:Int)] 3)) (.cells #[.int .i64 (rest:Int)] 3)
 have hb:Below w.heap.size w ((((w.alloc (.cells #[.pointer (some ⟨b,0,none⟩)] 162)).alloc (.cells #[.int .i64 (i:Int)] 3)).alloc (.cells #[.int .i64 (rest:Int)] 3)).alloc (.cells #[.int .i64 (-1)] 3)) :=
  bel (bel (bel ((Below.refl _ _).alloc (Nat.le_refl _) _) ((Below.refl _ _).alloc (Nat.le_refl _) _)) ((Below.refl _ _).alloc (Nat.le_refl _) _)) ((Below.refl _ _).alloc (Nat.le_refl _) _)
 refine ⟨grow_below (grow_refl w _) hb,(hp.memo.more (fun g hg hy=>hy.resolve_right (by omega))).below hb,blk_alloc (blk_alloc (blk_alloc (heap_alloc_new _ _) _) _) _,blk_alloc (blk_alloc (heap_alloc_at _ _ _ z1.symm) _) _,blk_alloc (heap_alloc_at _ _ _ (by rw [z2,z1])) _,heap_alloc_at _ _ _ (by rw [z3,z2,z1])⟩
set_option maxRecDepth 100000 in
set_option maxHeartbeats 16000000 in
theorem label_any (b mb:Nat) (p:PS) (go N Nc m rest i j:Nat) (q:Q) (row:List Int) (R:Option Addr) (rn rc:Nat) (w:World) {X:Nat→Prop} (hp:PAt w b mb p X) (hX:∀ g,X g→g < w.heap.size)
  (he:Elem p i j q) (hno:0≤q.node∧q.node < p.x.nd) (hse:0≤q.service∧q.service≤1000000) (hm:m < 64) (hmi:m.testBit i=true) (hrest:rest + 2 ^ i=m) (hri:rest.testBit i=false)
  (hrow:w.cell? ⟨go,rest,none⟩=some (.slice R rn rc)) (hN:rest < N) (hR:Ints w R rn row) (hrl:row.length=p.l.length) (hrb:∀ t ∈ row,-1≤t∧t≤1000000) :
  Calls Tryz.prog 177 #[.pointer (some ⟨b,0,none⟩),.slice (some ⟨go,0,none⟩) N Nc,.int .i64 m,.int .i64 i] w fun e w'=>e=.returned (.int .i64 (K.label p.x.nd p.x.l p.x.s p.x.r p.l row rest i q))∧Went w w' b mb p X:=by
 obtain ⟨hi,hj⟩:=he.lt hp
 obtain ⟨hne,hck,hdp,hrq,hl6,hgo⟩:=K.ok31_parts hp.ok
 obtain ⟨-,⟨d0,d1⟩,st0,st1,en1⟩:=K.check_parts hck
 have hn6:p.n≤6:=by rw [hp.set.1];exact hl6
 have hwt:(Lit.int .i64 (T.weight p.x.s p.x.r (K.part p.l rest))).wf=true:=T.weight_wf (by have:=K.part_len p.l rest;omega)
 have hlt:=lt_of_block hp.blk
 have hand:bits BinOp.andNot IntKind.i64 (m:Int) (IntKind.i64.wrap (2 ^ i))=(rest:Int):=by rw [wrap_pow (by omega),bit_not hm (by omega) hmi,show m - 2 ^ i=rest by omega]
 have HFI:=Lib.hid (show (if rest=0 then K.noted (K.way p.x.nd p.x.l p.x.s.depot (T.weight p.x.s p.x.r (K.part p.l rest)) q.node) (-1) p.x.s.start else -1)=K.first0 p.x.nd p.x.l p.x.s (T.weight p.x.s p.x.r (K.part p.l rest)) q.node rest from rfl)
 have hrm:rest < 64:=by have:=Nat.two_pow_pos i;omega
 have hand':bits BinOp.andNot IntKind.i64 (m:Int) (wrap64 (2 ^ i))=(rest:Int):=by rw [←IntWalk.i64_left];exact hand
 have hmb:=hp.memo.lt
 have HRS:=Lib.hid hrest
 have HDP:=Lib.hid hdp
 clear hne hck hrq hgo hrest
 have hL:=LRel.start hp rest i
 obtain ⟨w4,hw4⟩:∃ w4,w4=((((w.alloc (.cells #[.pointer (some ⟨b,0,none⟩)] 162)).alloc (.cells #[.int .i64 (i:Int)] 3)).alloc (.cells #[.int .i64 (rest:Int)] 3)).alloc (.cells #[.int .i64 (-1)] 3)):=⟨_,rfl⟩
 have k2:(0:Int)≤(rest:Int):=by omega
 have k3:(rest:Int) < (N:Int):=by omega
 go_enter Tryz.func177,Tryz.ntmps177
 obtain ⟨z0,hz0⟩:∃ z0:Bool,((rest:Int) == 0)=z0:=⟨_,rfl⟩
 go_upto_if 22 with fail
 rw [←hw4]
 rw [←hw4] at hL
 clear hand hand' hw4
 go_cut [10] from 23 to 34 (fun v10 wc=>v10=.pointer (some ⟨w.heap.size + 1 + 1 + 1,0,none⟩)∧LRel w b mb rest i p X (K.first0 p.x.nd p.x.l p.x.s (T.weight p.x.s p.x.r (K.part p.l rest)) q.node rest) wc)
 case first =>
  obtain ⟨l0,l1,l2,l3⟩:=hL.cells
  cases z0
  rotate_left
  ·have hr0:rest=0:=by simpa using hz0
   have HF0:=Lib.hid (show K.first0 p.x.nd p.x.l p.x.s (T.weight p.x.s p.x.r (K.part p.l rest)) q.node rest=K.noted (K.way p.x.nd p.x.l p.x.s.depot (T.weight p.x.s p.x.r (K.part p.l rest)) q.node) (-1) p.x.s.start by unfold K.first0;rw [if_pos hr0])
   clear hr0 hz0
   go_wp2_with fail
   clear l0 l1 l2 l3
   have hp4:=hL.pat hp
   have hLd:=hL.below (w':=w4.drew) (Below.refl _ _).drew
   have hp4d:=hLd.pat hp
   have hS:∀ w',LRel w b mb rest i p X (-1) w'→(fun w'=>w'.cell? ⟨w.heap.size,0,none⟩=some (.pointer (some ⟨b,0,none⟩))∧w'.cell? ⟨w.heap.size + 1,0,none⟩=some (.int .i64 (i:Int))∧w'.cell? ⟨w.heap.size + 1 + 1,0,none⟩=some (.int .i64 (rest:Int))∧w'.cell? ⟨b,0,none⟩=some (.int .i64 p.x.nd)∧w'.cell? ⟨b,1,none⟩=some (.slice p.x.A p.x.n p.x.c)∧w'.cell? ⟨b,2,none⟩=some (.int .i64 p.x.s.day)∧w'.cell? ⟨b,3,none⟩=some (.int .i64 p.x.s.depot)∧w'.cell? ⟨b,4,none⟩=some (.int .i64 p.x.s.start) ∧
  w'.cell? ⟨b,5,none⟩=some (.int .i64 p.x.s.end_)∧w'.cell? ⟨b,6,none⟩=some (.int .i64 p.x.s.tare)∧w'.cell? ⟨b,7,none⟩=some (.slice p.x.s.A p.x.s.n p.x.s.c)∧w'.cell? ⟨b,8,none⟩=some (.slice p.x.B p.x.m p.x.d)∧w'.cell? ⟨b,9,none⟩=some (.slice p.A p.n p.c)∧w'.cell? ⟨b,10,none⟩=some (.map (some mb))) w':=fun w' h=>⟨h.cells.1,h.cells.2.1,h.cells.2.2.1,(h.pat hp).blk.cells⟩
   have hSn:∀ w' f,LRel w b mb rest i p X f w'→(fun w'=>w'.cell? ⟨w.heap.size,0,none⟩=some (.pointer (some ⟨b,0,none⟩))∧w'.cell? ⟨w.heap.size + 1,0,none⟩=some (.int .i64 (i:Int))∧w'.cell? ⟨w.heap.size + 1 + 1,0,none⟩=some (.int .i64 (rest:Int))∧w'.cell? ⟨b,0,none⟩=some (.int .i64 p.x.nd)∧w'.cell? ⟨b,1,none⟩=some (.slice p.x.A p.x.n p.x.c)∧w'.cell? ⟨b,2,none⟩=some (.int .i64 p.x.s.day)∧w'.cell? ⟨b,3,none⟩=some (.int .i64 p.x.s.depot)∧w'.cell? ⟨b,4,none⟩=some (.int .i64 p.x.s.start) ∧
  w'.cell? ⟨b,5,none⟩=some (.int .i64 p.x.s.end_)∧w'.cell? ⟨b,6,none⟩=some (.int .i64 p.x.s.tare)∧w'.cell? ⟨b,7,none⟩=some (.slice p.x.s.A p.x.s.n p.x.s.c)∧w'.cell? ⟨b,8,none⟩=some (.slice p.x.B p.x.m p.x.d)∧w'.cell? ⟨b,9,none⟩=some (.slice p.A p.n p.c)∧w'.cell? ⟨b,10,none⟩=some (.map (some mb))) w':=fun w' f h=>⟨h.cells.1,h.cells.2.1,h.cells.2.2.1,(h.pat hp).blk.cells⟩
   have S0:=hS _ hL
   have S0d:=hS _ hLd
   have hX1:∀ g,(X g∨g=w.heap.size + 1 + 1 + 1)→g < w4.heap.size:=fun g hg=>by
    rcases hg with hg | hg
    ·exact Nat.lt_of_lt_of_le (hX g hg) hL.grown.size
    ·rw [hg];exact lt_of_block hL.g10
   go_region_held3 (fun w'=>w'.cell? ⟨w.heap.size,0,none⟩=some (.pointer (some ⟨b,0,none⟩))∧w'.cell? ⟨w.heap.size + 1,0,none⟩=some (.int .i64 (i:Int))∧w'.cell? ⟨w.heap.size + 1 + 1,0,none⟩=some (.int .i64 (rest:Int))∧w'.cell? ⟨b,0,none⟩=some (.int .i64 p.x.nd)∧w'.cell? ⟨b,1,none⟩=some (.slice p.x.A p.x.n p.x.c)∧w'.cell? ⟨b,2,none⟩=some (.int .i64 p.x.s.day)∧w'.cell? ⟨b,3,none⟩=some (.int .i64 p.x.s.depot)∧w'.cell? ⟨b,4,none⟩=some (.int .i64 p.x.s.start) ∧
  w'.cell? ⟨b,5,none⟩=some (.int .i64 p.x.s.end_)∧w'.cell? ⟨b,6,none⟩=some (.int .i64 p.x.s.tare)∧w'.cell? ⟨b,7,none⟩=some (.slice p.x.s.A p.x.s.n p.x.s.c)∧w'.cell? ⟨b,8,none⟩=some (.slice p.x.B p.x.m p.x.d)∧w'.cell? ⟨b,9,none⟩=some (.slice p.A p.n p.c)∧w'.cell? ⟨b,10,none⟩=some (.map (some mb)))
    (first | assumption | exact S0 | exact S0d)
    (first
     | (go_at_call 204;refine (note_any b mb p i j q rest p.x.s.depot p.x.s.start (-1) w.heap.size (w.heap.size + 1) (w.heap.size + 1 + 1) (w.heap.size + 1 + 1 + 1) w4.drew hp4d hX1 hLd.g4 hLd.g7 hLd.g9 hLd.g10 (.inr rfl) he (by omega) ⟨d0,HDP.out⟩ hno hwt (by omega)).mono ?_;rintro e w5 hnt;have hL5:=hLd.noted hnt hmb;have S5:=hSn _ _ hL5;obtain ⟨rfl,-⟩:=hnt)
     | fail)
   go_wp2_with fail
   go_meet
   case rel=>exact ⟨rfl,by rw [HF0.out];exact hL5⟩
  ·have hr0:¬ rest=0:=by simpa using hz0
   have HF0:=Lib.hid (show K.first0 p.x.nd p.x.l p.x.s (T.weight p.x.s p.x.r (K.part p.l rest)) q.node rest=-1 by unfold K.first0;rw [if_neg hr0])
   clear hr0 hz0
   go_wp2_with fail
   go_meet
   case rel=>exact ⟨rfl,by rw [HF0.out];exact hL⟩
 case rest =>
  obtain ⟨rfl,hL⟩:=hcut
  clear hz0
  have hrow0:(∀ w' first,LRel w b mb rest i p X first w'→w'.cell? ⟨go,rest,none⟩=some (.slice R rn rc)):=fun w' first h=>(hp.memo.ext h.grown).cell hrow
  have hRI:(∀ w' first,LRel w b mb rest i p X first w'→Ints w' R rn row):=fun w' first h=>hR.ext (hp.memo.ext h.grown)
  have HRN:=Lib.hid (show rn=p.n by rw [hR.1,hrl,←hp.set.1])
  have hr6:rn≤6:=by rw [HRN.out];exact hn6
  obtain ⟨l0,l1,l2,l3⟩:=hL.cells
  have r0:=hrow0 _ _ hL
  go_wp2_with fail
  go_loopw [40] (fun v40 wr=>∃ k:Nat,v40=.int .i64 k∧k≤rn∧LRel w b mb rest i p X (K.firsts p.x.nd p.x.l (T.weight p.x.s p.x.r (K.part p.l rest)) q.node (((K.nodes p.x.r p.l).zip row).take k) (K.first0 p.x.nd p.x.l p.x.s (T.weight p.x.s p.x.r (K.part p.l rest)) q.node rest)) wr) (fun v40 _=>rn - (intOf v40).toNat)
  case atStart=>exact ⟨0,rfl,by omega,hL⟩
  case round =>
   clear l0 l1 l2 l3 r0 hL
   obtain ⟨k,rfl,hk,hL⟩:=hrel
   have hpr:=hL.pat hp
   obtain ⟨l0,l1,l2,l3⟩:=hL.cells
   by_cases hlt:k < rn
   ·obtain ⟨adr,tk,hRA,htk,ctk⟩:=(hRI _ _ hL).at_ hlt
    obtain ⟨jk,qk,hek,hnk,-,hgn⟩:=hp.elem (k:=k) (by rw [←HRN.out];exact hlt)
    have HZ:=Lib.hid (show ((K.nodes p.x.r p.l).zip row)[k]? = some (qk.node,tk) by rw [List.getElem?_zip_eq_some];exact ⟨hgn,htk⟩)
    have htb:=hrb tk (List.mem_of_getElem? htk)
    have k4:(0:Int)≤(k:Int):=by omega
    have k5:(k:Int) < (rn:Int):=by omega
    clear htk hgn
    rw [hRA]
    go_wp2_with fail
    refine (node_any b mb p k jk qk wr hpr hek).mono ?_
    rintro e w5 ⟨rfl,b5⟩
    have hL5:=hL.below b5
    have hX5:∀ g,(X g∨g=w.heap.size + 1 + 1 + 1)→g < w5.heap.size:=fun g hg=>by
     rcases hg with hg | hg
     ·exact Nat.lt_of_lt_of_le (hX g hg) hL5.grown.size
     ·rw [hg];exact lt_of_block hL5.g10
    clear l0 l1 l2 l3 ctk
    go_wp2_with fail
    refine (note_any b mb p i j q rest qk.node tk _ w.heap.size (w.heap.size + 1) (w.heap.size + 1 + 1) (w.heap.size + 1 + 1 + 1) w5 (hL5.pat hp) hX5 hL5.g4 hL5.g7 hL5.g9 hL5.g10 (.inr rfl) he (by omega) hnk hno hwt htb).mono ?_
    rintro e w6 hnt
    have hL6:=hL5.noted hnt hmb
    obtain ⟨rfl,-⟩:=hnt
    clear hL5 hX5
    go_wp2_with fail
    go_roundw
    case rel=>exact ⟨k + 1,by go_num,by omega,by rw [K.firsts_snoc HZ.out];exact hL6⟩
    case measure=>simp [intOf];omega
   ·clear l0 l1 l2 l3
    have hkn:k=rn:=by omega
    have hzl:((K.nodes p.x.r p.l).zip row).take k=(K.nodes p.x.r p.l).zip row:=List.take_of_length_le (by rw [List.length_zip];have:=hR.1;omega)
    rw [hzl] at hL
    obtain ⟨F,hF⟩:∃ F,F=K.arrives p.x.nd p.x.l p.x.s p.x.r p.l row rest q:=⟨_,rfl⟩
    have hL:LRel w b mb rest i p X F wr:=by rw [hF];exact hL
    have HF:=Lib.hid (show K.label p.x.nd p.x.l p.x.s p.x.r p.l row rest i q=K.labelOf p.x.s p.x.r q (K.part p.l (rest + 2 ^ i)) F by unfold K.label;rw [hF])
    have hW:Went w wr b mb p X:=⟨hL.grown,hp.keep (hp.memo.ext hL.grown) (hL.memo.more (fun g _ hg=>.inl hg))⟩
    obtain ⟨l0,l1,l2,l3⟩:=hL.cells
    clear hF hzl hkn
    cases hf1:(F == -1)
    rotate_left
    ·have HX:=Lib.hid (show K.labelOf p.x.s p.x.r q (K.part p.l (rest + 2 ^ i)) F=-1 by unfold K.labelOf;rw [if_pos (show F=-1 by simpa using hf1)])
     go_wp2_with fail
     go_ret
     exact ⟨by rw [HF.out,HX.out];rfl,hW⟩
    have HN1:=Lib.hid (show ¬ F=-1 by simpa using hf1)
    have CB:=pbegins_any b mb p rest i j q F wr hpr he hrm hri (by rw [HRS.out];omega) hse
    unfold Beg at CB
    have hok:=K.begins_ok (s:=p.x.s) (r:=p.x.r) (q:=q) (all:=K.part p.l (rest + 2 ^ i)) (arr:=F)
    obtain ⟨B,hB⟩:∃ B,B=K.begins p.x.s p.x.r q (K.part p.l (rest + 2 ^ i)) F:=⟨_,rfl⟩
    rw [←hB] at CB hok
    have HL:=Lib.hid (show K.labelOf p.x.s p.x.r q (K.part p.l (rest + 2 ^ i)) F=if B.2=true then B.1 + q.service else -1 by unfold K.labelOf;rw [if_neg HN1.out,←hB])
    have HOK:=Lib.hid hok
    obtain ⟨t,ok⟩:=B
    clear hB hok
    simp only at CB
    go_wp2_with fail
    refine CB.mono ?_
    rintro e w5 ⟨rfl,b5⟩
    have hL5:=hL.below b5
    have hW5:=hW.below b5
    have hp5:=hW5.2
    clear l0 l1 l2 l3 CB
    obtain ⟨l0,l1,l2,l3⟩:=hL5.cells
    cases ok
    ·go_wp2_with fail
     go_ret
     exact ⟨by rw [HF.out,HL.out];rfl,hW5⟩
    ·obtain ⟨-,-,-,t0,t1,t2,t3⟩:=HOK.out rfl
     have hwrap:IntKind.i64.wrap (t + q.service)=t + q.service:=IntWalk.i64_in _ (by omega)
     obtain ⟨c0,c1,c2,c3,c4,c5,c6,c7,c8,c9,c10⟩:=hp5.blk.cells
     obtain ⟨ads,ad,hA,hB,-,y,e0,e1,e2,e3,-⟩:=he.cells hp5
     rw [hA] at c9
     rw [hB] at c8
     have k6:(0:Int)≤(i:Int):=by omega
     have k7:(i:Int) < (p.n:Int):=by omega
     have k8:(0:Int)≤(j:Int):=by omega
     have k9:(j:Int) < (p.x.m:Int):=by omega
     clear hA hB
     go_wp2_with fail
     go_quiet (fail)
     go_wp2_with fail
     go_ret
     exact ⟨by rw [HF.out,HL.out];rfl,hW5.below (below_drewN (Below.refl _ _) _)⟩
def Rep (n k:Nat):List Value:=List.replicate k (Value.int .i64 (-1)) ++ List.replicate (n - k) (Value.int .i64 0)
theorem rep_len {n k:Nat} (h:k≤n):(Rep n k).length=n:=by simp [Rep];omega
theorem rep_zero (n:Nat):intCells (List.replicate n 0)=Rep n 0:=by simp [Rep,intCells]
theorem rep_full (n:Nat):Rep n n=intCells (List.replicate n (-1)):=by simp [Rep,intCells]
theorem rep_splice {n k c:Nat} (h:k + c≤n):splice (Rep n k) k (List.replicate c (Value.int .i64 (-1)))=Rep n (k + c):=by
 unfold splice Rep
 have e1:(List.replicate k (Value.int .i64 (-1)) ++ List.replicate (n - k) (Value.int .i64 0)).take k=List.replicate k (Value.int .i64 (-1)):=by
  rw [List.take_append_of_le_length (by simp)]
  exact List.take_of_length_le (by simp)
 have e2:(List.replicate k (Value.int .i64 (-1)) ++ List.replicate (n - k) (Value.int .i64 0)).drop (k + (List.replicate c (Value.int .i64 (-1))).length)=List.replicate (n - (k + c)) (Value.int .i64 0):=by
  rw [List.length_replicate,List.drop_append,List.drop_eq_nil_of_le (by simp),List.nil_append,List.length_replicate,List.drop_replicate]
  congr 1
  omega
 rw [e1,e2,←List.append_assoc,List.replicate_append_replicate]
theorem mul_and:∀ n:Fin 7,bits .and .u64 (n.val:Int) 4294967295=n.val:=by decide +kernel
theorem mul_shr:∀ n:Fin 7,(n.val:Int) / 4294967296=0:=by decide +kernel
set_option maxRecDepth 100000 in
set_option maxHeartbeats 4000000 in
theorem mul64_any (n:Nat) (hn:n≤6) (w:World) :
  Calls Tryz.prog 211 #[.int .u64 1,.int .u64 n] w fun e w'=>e=.returned (.tuple #[.int .u64 0,.int .u64 n])∧w'=w:=by
 have h1:bits BinOp.and IntKind.u64 1 4294967295=1:=by decide
 have h2:bits BinOp.and IntKind.u64 (n:Int) 4294967295=n:=mul_and ⟨n,by omega⟩
 have h3:(n:Int) / 4294967296=0:=mul_shr ⟨n,by omega⟩
 have h4:bits BinOp.and IntKind.u64 0 4294967295=0:=by decide
 go_enter Tryz.func211,Tryz.ntmps211
 go_wp2_with fail
 go_ret2
 exact ⟨rfl,rfl⟩
set_option maxRecDepth 100000 in
set_option maxHeartbeats 4000000 in
theorem mul_any (n:Nat) (hn:n≤6) (w:World) :
  Calls Tryz.prog 203 #[.int .u64 1,.int .u64 n] w fun e w'=>e=.returned (.tuple #[.int .u64 0,.int .u64 n])∧w'=w:=by
 go_enter Tryz.func203,Tryz.ntmps203
 go_wp2_with fail
 refine (mul64_any n hn w).mono ?_
 rintro e w' ⟨rfl,rfl⟩
 go_wp2_with fail
 go_ret2
 exact ⟨rfl,rfl⟩
set_option maxRecDepth 100000 in
set_option maxHeartbeats 8000000 in
theorem repeat_any (g:Nat) (n:Nat) (hn:n≤6) (w:World) (hg:w.heap[g]? = some (.cells #[.int .i64 (-1)] 3 (0,0))) :
  Calls Tryz.prog 176 #[.slice (some ⟨g,0,none⟩) 1 1,.int .i64 n] w fun e w'=>(∃ b,e=.returned (.slice (some ⟨b,0,none⟩) n n)∧w.heap.size≤b∧IBlk w' b (List.replicate n (-1)))∧Below w.heap.size w w':=by
 have hmk:=fun w'=>make_ints n (by omega) w'
 have h0:IntKind.u64.wrap (n:Int)=(n:Int):=by rw [IntKind.wrap_u64];omega
 go_enter Tryz.func176,Tryz.ntmps176
 go_wp2_with fail
 refine (mul_any n hn w).mono ?_
 rintro e w0 ⟨rfl,rfl⟩
 have c1:decide ((9223372036854775807:Int) < (n:Int))=false:=by simp;omega
 have h5:IntKind.i64.wrap (n:Int)=(n:Int):=IntWalk.i64_in _ (by omega)
 have hsz:(Tryz.prog.info? 3).map (·.size)=some 1:=by kernel_rfl
 obtain ⟨X0,hX0⟩:∃ X0,X0=Rep n 0:=⟨_,rfl⟩
 obtain ⟨X1,hX1⟩:∃ X1,X1=List.replicate (min 1 n) (Value.int .i64 (-1)):=⟨_,rfl⟩
 have hl0:X0.length=n:=by rw [hX0];exact rep_len (Nat.zero_le n)
 have hl1:X1.length=min 1 n:=by rw [hX1];simp
 have ho1:∀ v ∈ X1,v.oneCell'=true:=by rw [hX1];intro v hv;rw [(List.mem_replicate.1 hv).2];rfl
 rw [rep_zero,←hX0] at hmk
 have hgn:(w0.alloc (.cells X0.toArray 3)).heap[w0.heap.size]? = some (.cells X0.toArray 3 (0,0)):=heap_alloc_new _ _
 have hsrc:∀ j v,X1[j]? = some v→(w0.alloc (.cells X0.toArray 3)).cell? ((⟨g,0,none⟩:Addr).add j)=some v:=fun j v hv=>by
  have hgl:=lt_of_block hg
  have hj:j=0∧v=.int .i64 (-1):=by
   obtain ⟨hj,e⟩:=List.getElem?_eq_some_iff.1 hv
   have h1:=hl1
   refine ⟨by omega,?_⟩
   subst e
   simp [hX1]
  obtain ⟨rfl,rfl⟩:=hj
  exact blk_cell (blk_alloc hg _) 0 _ rfl
 have hb0:Below w0.heap.size w0 (w0.alloc (.cells X0.toArray 3)):=(Below.refl _ _).alloc (Nat.le_refl _) _
 have HX0:=Lib.hid hX0
 have HX1:=Lib.hid hX1
 have HL0:=Lib.hid hl0
 have HL1:=Lib.hid hl1
 have hmn:X1.length=Nat.min 1 n:=hl1
 have HMN:=Lib.hid hmn
 clear hX0 hX1 hl0 hl1 hmn
 go_wp2_with (refine wpList_copy_splice rfl (.tmp 31) (.tmp 32) 48 48 rfl 3 Tryz.underlying48 hsz (some ⟨w0.heap.size,0,none⟩) (some ⟨g,0,none⟩) n n 1 1 rfl rfl w0.heap.size 0 X0 3 hgn X1 HMN.out (fun _=>⟨rfl,_,rfl,hsrc⟩) (by rw [HL0.out,HL1.out];omega) ho1 w0.heap.size w0 hb0 (Nat.le_refl _) ?_;intro w2 hg2 hb2)
 have hk1:min 1 n≤n:=Nat.min_le_right _ _
 have HK2:=Lib.hid (show n=0∨0 < min 1 n by omega)
 have hrel0:Hid (w2.heap[w0.heap.size]? = some (.cells (Rep n (min 1 n)).toArray 3 (0,0))):=by
  have h9:=hg2.out
  rw [HX0.out,HX1.out,rep_splice (by omega),Nat.zero_add] at h9
  exact h9
 have HG1:=Lib.hid (show goInt X1.length=.int .i64 ((min 1 n:Nat):Int) by rw [HL1.out];rfl)
 go_wp2_with fail
 go_loopw [8] (fun v8 wr=>∃ k:Nat,v8=.int .i64 k∧k≤n∧Hid (n=0∨0 < k)∧Hid (wr.heap[w0.heap.size]? = some (.cells (Rep n k).toArray 3 (0,0)))∧Below w0.heap.size w0 wr) (fun v8 _=>n - (intOf v8).toNat)
 case atStart=>exact ⟨min 1 n,by first | exact HG1.out | (rw [HL1.out]),hk1,HK2.out,hrel0.out,hb2⟩
 case round =>
  clear hrel0 hg2 hb2 hgn hb0 hsrc hmk
  obtain ⟨k,rfl,hk,hk0,hrow,hbr⟩:=hrel
  by_cases hlt:k < n
  ·have hcf:(n=k)=False:=eq_false (by omega)
   have k0:(0:Int)≤(k:Int):=by omega
   have k1:(k:Int)≤(n:Int):=by omega
   have hkp:0 < k:=hk0.out.resolve_left (by omega)
   obtain ⟨c,hc⟩:∃ c,c=min k (n - k):=⟨_,rfl⟩
   obtain ⟨X2,hX2⟩:∃ X2,X2=List.replicate c (Value.int .i64 (-1)):=⟨_,rfl⟩
   have HC:=Lib.hid hc
   have HX2:=Lib.hid hX2
   have HL2:=Lib.hid (show X2.length=c by rw [hX2];simp)
   have HO2:=Lib.hid (show ∀ v ∈ X2,v.oneCell'=true by rw [hX2];intro v hv;rw [(List.mem_replicate.1 hv).2];rfl)
   have hsrc:∀ j v,X2[j]? = some v→wr.cell? ((⟨w0.heap.size,0,none⟩:Addr).add j)=some v:=fun j v hv=>by
    obtain ⟨hj,e⟩:=List.getElem?_eq_some_iff.1 hv
    have h1:j < c:=by rw [←HL2.out];exact hj
    subst e
    rw [add_zero_block]
    refine blk_cell hrow.out j _ ?_
    have hjk:j < k:=by rw [HC.out] at h1;omega
    simp only [HX2.out,List.getElem_replicate]
    unfold Rep
    rw [List.getElem?_toArray,List.getElem?_append_left (by simp;omega),List.getElem?_replicate,if_pos hjk]
   have hcn:c≤n - k:=by rw [hc];exact Nat.min_le_right _ _
   have hc1:0 < c:=by omega
   clear hc hX2
   have HWX:=Lib.hid (show IntKind.i64.wrap ((k:Int) + (X2.length:Int))=((k + c:Nat):Int) by rw [HL2.out,IntWalk.i64_in _ (by omega)];omega)
   have hbd:Below w0.heap.size w0 wr.drew:=hbr.drew
   have hrowd:wr.drew.heap[w0.heap.size]? = some (.cells (Rep n k).toArray 3 (0,0)):=hrow.out
   have hsrcd:∀ j v,X2[j]? = some v→wr.drew.cell? ((⟨w0.heap.size,0,none⟩:Addr).add j)=some v:=hsrc
   go_wp2_with fail
   go_region_held3 (fun _=>True) (trivial)
    (first
     | (refine step_copy_splice rfl (.tmp 41) (.tmp 44) 48 48 rfl 3 Tryz.underlying48 hsz (some ⟨w0.heap.size,k,none⟩) (some ⟨w0.heap.size,0,none⟩) (n - k) (n - k) k n rfl rfl w0.heap.size k (Rep n k) 3 ?_ X2 (by rw [HL2.out];exact HC.out) ?_ (by rw [HL2.out,rep_len hk];omega) HO2.out w0.heap.size w0 ?_ (Nat.le_refl _) ?_;exact hrowd;exact (fun _=>⟨rfl,_,rfl,hsrcd⟩);exact hbd;intro w3 hg3 hb3)
     | fail)
   have hrow3:w3.heap[w0.heap.size]? = some (.cells (Rep n (k + c)).toArray 3 (0,0)):=by
    have h9:=hg3.out
    rw [HX2.out,rep_splice (by omega)] at h9
    exact h9
   have HR3:=Lib.hid hrow3
   clear hrow3 hg3 hrowd hsrc hsrcd hbd
   rw [HWX.out]
   go_wp2_with fail
   go_roundw
   case rel=>exact ⟨k + c,rfl,by omega,(show n=0∨0 < k + c from .inr (by omega)),HR3.out,hb3⟩
   case measure=>simp [intOf];omega
  ·have hkn:k=n:=by omega
   have HR3:=Lib.hid (show IBlk wr w0.heap.size (List.replicate n (-1)) by
    have h9:=hrow.out
    rw [hkn,rep_full] at h9
    exact h9)
   clear hkn
   go_wp2_with fail
   go_ret
   exact ⟨⟨_,rfl,Nat.le_refl _,HR3.out⟩,hbr⟩
namespace K
def rowOf (nd:Int) (l:List Ro) (s:S) (r:List Q) (v:List Int) (t:List (List Int)) (m:Nat):List Int :=
 (List.range v.length).map fun i=>if m.testBit i=true then label nd l s r v ((t[m - 2 ^ i]?).getD []) (m - 2 ^ i) i (req r ((v[i]?).getD 0)) else -1
def table (nd:Int) (l:List Ro) (s:S) (r:List Q) (v:List Int):Nat→List (List Int)
 | 0=>[]
 | M + 1=>table nd l s r v M ++ [rowOf nd l s r v (table nd l s r v M) M]
theorem table_len (nd:Int) (l:List Ro) (s:S) (r:List Q) (v:List Int):∀ M,(table nd l s r v M).length=M
 | 0=>rfl
 | M + 1=>by simp [table,table_len nd l s r v M]
theorem table_le {nd:Int} {l:List Ro} {s:S} {r:List Q} {v:List Int} {m M:Nat} (h:m≤M) {k:Nat} (hk:k < m):(table nd l s r v M)[k]? = (table nd l s r v m)[k]?:=by
 induction M with
 | zero=>rw [show m=0 by omega]
 | succ M ih =>
  by_cases e:m=M + 1
  ·rw [e]
  ·rw [table,List.getElem?_append_left (by rw [table_len];omega)]
   exact ih (by omega)
theorem table_at {nd:Int} {l:List Ro} {s:S} {r:List Q} {v:List Int} {m M:Nat} (h:m < M):(table nd l s r v M)[m]? = some (rowOf nd l s r v (table nd l s r v m) m):=by
 rw [table_le (m:=m + 1) (by omega) (by omega),table,List.getElem?_append_right (by rw [table_len];omega),table_len]
 simp
theorem rowOf_len (nd:Int) (l:List Ro) (s:S) (r:List Q) (v:List Int) (t:List (List Int)) (m:Nat):(rowOf nd l s r v t m).length=v.length:=by simp [rowOf]
theorem rowOf_at {nd:Int} {l:List Ro} {s:S} {r:List Q} {v:List Int} {t:List (List Int)} {m i:Nat} {j:Int} (hi:v[i]? = some j) :
  (rowOf nd l s r v t m)[i]? = some (if m.testBit i=true then label nd l s r v ((t[m - 2 ^ i]?).getD []) (m - 2 ^ i) i (req r j) else -1):=by
 obtain ⟨hk,e⟩:=List.getElem?_eq_some_iff.1 hi
 subst e
 simp [rowOf,hk]
theorem label_bd {nd:Int} {l:List Ro} {s:S} {r:List Q} {v row:List Int} {rest i:Nat} {q:Q} (hq:0≤q.service):-1≤label nd l s r v row rest i q∧label nd l s r v row rest i q≤1000000:=by
 unfold label labelOf
 split
 ·decide
 ·split
  ·rename_i h
   obtain ⟨-,-,-,h1,h2,-,h3⟩:=begins_ok h
   omega
  ·decide
theorem rowOf_bd {nd:Int} {l:List Ro} {s:S} {r:List Q} {v:List Int} {t:List (List Int)} {m:Nat} (hq:∀ i ∈ v,0≤(req r i).service):∀ x ∈ rowOf nd l s r v t m,-1≤x∧x≤1000000:=by
 intro x hx
 obtain ⟨i,hi⟩:=List.mem_iff_getElem?.1 hx
 have hil:i < v.length:=by
  have:=(List.getElem?_eq_some_iff.1 hi).1
  rwa [rowOf_len] at this
 rw [rowOf_at (List.getElem?_eq_getElem hil)] at hi
 injection hi with hi
 subst hi
 split
 ·exact label_bd (hq _ (List.getElem_mem hil))
 ·decide
def upto (row:List Int) (i:Nat):List Int:=row.take i ++ List.replicate (row.length - i) (-1)
theorem upto_zero (row:List Int):upto row 0=List.replicate row.length (-1):=by simp [upto]
theorem upto_full (row:List Int):upto row row.length=row:=by simp [upto]
theorem upto_len {row:List Int} {i:Nat} (h:i≤row.length):(upto row i).length=row.length:=by simp [upto];omega
theorem upto_next {row:List Int} {i:Nat} {x:Int} (h:row[i]? = some x):(upto row i).set i x=upto row (i + 1):=by
 have hi:=(List.getElem?_eq_some_iff.1 h).1
 apply List.ext_getElem?
 intro k
 rw [List.getElem?_set]
 unfold upto
 rw [take_snoc h]
 by_cases hk:i=k
 ·subst hk
  rw [if_pos rfl,if_pos (by simp;omega),List.getElem?_append_left (by simp;omega),List.getElem?_append_right (by simp;omega),show i - (row.take i).length=0 by simp;omega]
  rfl
 ·rw [if_neg hk]
  rcases Nat.lt_or_gt_of_ne hk with h1 | h1
  ·rw [List.getElem?_append_right (by simp;omega),List.getElem?_append_right (by simp;omega),List.getElem?_replicate,List.getElem?_replicate]
   simp only [List.length_take,List.length_append,List.length_singleton]
   have e1:min i row.length=i:=by omega
   rw [e1]
   by_cases h2:k < row.length
   ·rw [if_pos (by omega),if_pos (by omega)]
   ·rw [if_neg (by omega),if_neg (by omega)]
  ·rw [List.getElem?_append_left (by simp;omega),List.append_assoc,List.getElem?_append_left (by simp;omega)]
theorem upto_skip {row:List Int} {i:Nat} (h:row[i]? = some (-1)):upto row i=upto row (i + 1):=by
 rw [←upto_next h]
 have hi:=(List.getElem?_eq_some_iff.1 h).1
 apply List.ext_getElem?
 intro k
 rw [List.getElem?_set]
 by_cases hk:i=k
 ·subst hk
  rw [if_pos rfl,if_pos (by rw [upto_len (by omega)];omega)]
  unfold upto
  rw [List.getElem?_append_right (by simp;omega),List.getElem?_replicate,if_pos (by simp;omega)]
 ·rw [if_neg hk]
end K
theorem bit_rest_all:∀ m:Fin 64,∀ i:Fin 6,m.val.testBit i.val=true→(m.val - 2 ^ i.val) + 2 ^ i.val=m.val∧(m.val - 2 ^ i.val).testBit i.val=false:=by decide +kernel
theorem bit_rest {m i:Nat} (hm:m < 64) (hi:i < 6) (h:m.testBit i=true):(m - 2 ^ i) + 2 ^ i=m∧(m - 2 ^ i).testBit i=false:=bit_rest_all ⟨m,hm⟩ ⟨i,hi⟩ h
theorem Tryz.info48:(Tryz.prog.info? 48).map (fun i=>(i.zero,i.size,i.bytes))=some (some (.slice none 0 0),1,24):=by kernel_rfl
theorem make_rows (n:Nat) (hn:n≤1000000) (w:World):(Instr.makeSlice 97 (.int .i64 n) (.int .i64 n)).run Tryz.prog w=.ok (.slice (some ⟨w.heap.size,0,none⟩) n n) (w.alloc (.cells (List.replicate n (Value.slice none 0 0)).toArray 48)):=by
 have h:=run_make_row' (P:=Tryz.prog) 97 48 (.slice none 0 0) 24 Tryz.underlying97 Tryz.info48 rfl .i64 .i64 n (by omega) (by omega) w
 rw [made_rep] at h
 rw [h]
def tabCells (n N:Nat) (gs:List Nat):List Value:=gs.map (fun g=>Value.slice (some ⟨g,0,none⟩) n n) ++ List.replicate (N - gs.length) (Value.slice none 0 0)
theorem tab_at {n N:Nat} {gs:List Nat} {m g:Nat} (h:gs[m]? = some g):(tabCells n N gs)[m]? = some (.slice (some ⟨g,0,none⟩) n n):=by
 have hk:=(List.getElem?_eq_some_iff.1 h).1
 unfold tabCells
 rw [List.getElem?_append_left (by simpa using hk),List.getElem?_map,h]
 rfl
theorem tab_next {n N:Nat} {gs:List Nat} (h:gs.length < N):(tabCells n N gs)[gs.length]? = some (.slice none 0 0):=by
 unfold tabCells
 rw [List.getElem?_append_right (by simp),List.getElem?_replicate,if_pos (by simp;omega)]
theorem tab_set {n N:Nat} {gs:List Nat} (g:Nat) (h:gs.length < N):(tabCells n N gs).set gs.length (.slice (some ⟨g,0,none⟩) n n)=tabCells n N (gs ++ [g]):=by
 unfold tabCells
 obtain ⟨d,hd⟩:∃ d,N - gs.length=d + 1:=⟨N - gs.length - 1,by omega⟩
 rw [hd,List.set_append_right _ _ (by simp),List.length_map,Nat.sub_self,List.replicate_succ,List.set_cons_zero,List.map_append,List.append_assoc]
 simp only [List.length_append,List.length_singleton,List.map_cons,List.map_nil]
 rw [show N - (gs.length + 1)=d by omega]
 rfl
structure LTab (w:World) (mb go:Nat) (p:PS) (N:Nat) (gs:List Nat) (rows:List (List Int)) (wr:World):Prop where
 grown:w.grownBy wr (some mb)
 memo:Memo wr mb p.x.nd p.x.l (fun g=>g=go∨g ∈ gs)
 outb:wr.heap[go]? = some (.cells (tabCells p.n N gs).toArray 48 (0,0))
 len:gs.length=rows.length
 row:∀ (m g:Nat) (row:List Int),gs[m]? = some g→rows[m]? = some row→IBlk wr g row
 new:∀ g ∈ gs,w.heap.size≤g∧g ≠ go
 go:w.heap.size≤go
theorem LTab.lt {w wr:World} {mb go N:Nat} {p:PS} {gs:List Nat} {rows:List (List Int)} (h:LTab w mb go p N gs rows wr):∀ g,(g=go∨g ∈ gs)→g < wr.heap.size:=fun g hg=>by
 rcases hg with rfl | hg
 ·exact lt_of_block h.outb
 ·obtain ⟨m,hm⟩:=List.mem_iff_getElem?.1 hg
  have hl:m < rows.length:=by rw [←h.len];exact (List.getElem?_eq_some_iff.1 hm).1
  exact (h.row m g _ hm (List.getElem?_eq_getElem hl)).lt
theorem IBlk.ext {w w':World} {g:Nat} {l:List Int} (h:IBlk w g l) (hx:Ext w w'):IBlk w' g l:=hx.cells _ _ _ _ h
theorem LTab.went {w wr w':World} {b mb go N:Nat} {p:PS} {gs:List Nat} {rows:List (List Int)} (h:LTab w mb go p N gs rows wr) (hw:Went wr w' b mb p (fun g=>g=go∨g ∈ gs)):LTab w mb go p N gs rows w':=by
 have hx:=h.memo.ext hw.1
 exact ⟨grow_step h.grown hw.1 (.inl rfl),hw.2.memo,hx.cells _ _ _ _ h.outb,h.len,fun m g row h1 h2=>(h.row m g row h1 h2).ext hx,h.new,h.go⟩
theorem LTab.below {w wr w':World} {mb go N:Nat} {p:PS} {gs:List Nat} {rows:List (List Int)} (h:LTab w mb go p N gs rows wr) (hb:Below wr.heap.size wr w'):LTab w mb go p N gs rows w' :=
 ⟨grow_below h.grown hb,h.memo.below hb,blk_below hb h.outb,h.len,fun m g row h1 h2=>(h.row m g row h1 h2).ext (Ext.below hb),h.new,h.go⟩
theorem LTab.pat {w wr:World} {b mb go N:Nat} {p:PS} {X:Nat→Prop} {gs:List Nat} {rows:List (List Int)} (h:LTab w mb go p N gs rows wr) (hp:PAt w b mb p X):PAt wr b mb p (fun g=>g=go∨g ∈ gs) :=
 (hp.more (Y:=fun g=>g=go∨g ∈ gs) (fun g hg hy=>by
  rcases hy with rfl | hy
  ·have:=h.go;omega
  ·have:=(h.new g hy).1;omega)).keep (hp.memo.ext h.grown) h.memo
theorem LTab.push {w wr w1:World} {mb go N g:Nat} {p:PS} {gs:List Nat} {rows:List (List Int)} {row:List Int} (h:LTab w mb go p N gs rows wr) (hb:Below wr.heap.size wr w1) (hg:wr.heap.size≤g) (hI:IBlk w1 g row) (hN:gs.length < N) (hmb:mb < w.heap.size) :
  LTab w mb go p N (gs ++ [g]) (rows ++ [row]) (w1.setCell ⟨go,gs.length,none⟩ (.slice (some ⟨g,0,none⟩) p.n p.n)):=by
 have h1:=h.below hb
 have hgo:=lt_of_block h.outb
 have hne:g ≠ go:=by omega
 have hm:Memo w1 mb p.x.nd p.x.l (fun k=>k=go∨k ∈ gs ++ [g]):=(h.memo.more (Y:=fun k=>k=go∨k ∈ gs ++ [g]) (fun k hk hy=>by
  rcases hy with rfl | hy
  ·exact .inl rfl
  ·rcases List.mem_append.1 hy with hy | hy
   ·exact .inr hy
   ·rw [List.mem_singleton.1 hy] at hk;omega)).below hb
 have hgm:go ≠ mb:=by have:=h.go;omega
 refine ⟨⟨h1.grown.os,h1.grown.tape,h1.grown.output,by rw [World.size_setCell];exact h1.grown.size,fun k hk hne=>?_⟩,hm.set (.inl rfl) hgm _ _,?_,by simp [h.len],fun m k r hm1 hm2=>?_,fun k hk=>?_,h.go⟩
 ·exact (Below.heap_setCell w1 _ _ k (by have:=h.go;show k ≠ go;omega)).trans (h1.grown.block k hk hne)
 ·have h9:=blk_set h1.outb gs.length (.slice (some ⟨g,0,none⟩) p.n p.n)
  rw [h9,←tab_set g hN]
  simp
 ·have hoth:∀ k r,IBlk w1 k r→k ≠ go→IBlk (w1.setCell ⟨go,gs.length,none⟩ (.slice (some ⟨g,0,none⟩) p.n p.n)) k r:=fun k r h9 hk=>(Below.heap_setCell w1 _ _ k (by show k ≠ go;exact hk)).trans h9
  by_cases hml:m < gs.length
  ·rw [List.getElem?_append_left hml] at hm1
   rw [List.getElem?_append_left (by rw [←h.len];exact hml)] at hm2
   exact hoth _ _ (h1.row m k r hm1 hm2) (h.new k (List.mem_of_getElem? hm1)).2
  ·have hl:=(List.getElem?_eq_some_iff.1 hm1).1
   simp at hl
   have e:m=gs.length:=by omega
   subst e
   rw [List.getElem?_append_right (Nat.le_refl _),Nat.sub_self] at hm1
   rw [List.getElem?_append_right (by rw [h.len];omega),h.len,Nat.sub_self] at hm2
   injection hm1 with hm1
   injection hm2 with hm2
   subst hm1 hm2
   exact hoth _ _ hI hne
 ·rcases List.mem_append.1 hk with hk | hk
  ·exact h.new k hk
  ·rw [List.mem_singleton.1 hk]
   exact ⟨Nat.le_trans h.grown.size hg,hne⟩
theorem LTab.store {w wr:World} {mb go N g i:Nat} {p:PS} {gs:List Nat} {rows:List (List Int)} {row:List Int} (x:Int) (h:LTab w mb go p N (gs ++ [g]) (rows ++ [row]) wr) (hg:g ∉ gs) (hmb:mb < w.heap.size) :
  LTab w mb go p N (gs ++ [g]) (rows ++ [row.set i x]) (wr.setCell ⟨g,i,none⟩ (.int .i64 x)):=by
 have hgn:=h.new g (by simp)
 have hlen:gs.length=rows.length:=by have:=h.len;simpa using this
 have hoth:∀ k r,IBlk wr k r→k ≠ g→IBlk (wr.setCell ⟨g,i,none⟩ (.int .i64 x)) k r:=fun k r h9 hk=>(Below.heap_setCell wr _ _ k (by show k ≠ g;exact hk)).trans h9
 refine ⟨⟨h.grown.os,h.grown.tape,h.grown.output,by rw [World.size_setCell];exact h.grown.size,fun k hk hne=>?_⟩,h.memo.set (.inr (by simp)) (by omega) _ _,?_,by simpa using hlen,fun m k r hm1 hm2=>?_,h.new,h.go⟩
 ·exact (Below.heap_setCell wr _ _ k (by show k ≠ g;omega)).trans (h.grown.block k hk hne)
 ·exact (Below.heap_setCell wr _ _ go (by show go ≠ g;exact fun e=>hgn.2 e.symm)).trans h.outb
 ·by_cases hml:m < gs.length
  ·have hm1':=hm1
   rw [List.getElem?_append_left hml] at hm1'
   rw [List.getElem?_append_left (by rw [←hlen];exact hml)] at hm2
   refine hoth _ _ (h.row m k r hm1 (by rw [List.getElem?_append_left (by rw [←hlen];exact hml)];exact hm2)) (fun e=>hg (by rw [←e];exact List.mem_of_getElem? hm1'))
  ·have hl:=(List.getElem?_eq_some_iff.1 hm1).1
   simp at hl
   have e:m=gs.length:=by omega
   subst e
   rw [List.getElem?_append_right (Nat.le_refl _),Nat.sub_self] at hm1
   rw [List.getElem?_append_right (by rw [hlen];omega),hlen,Nat.sub_self] at hm2
   injection hm1 with hm1
   injection hm2 with hm2
   subst hm1 hm2
   exact (h.row gs.length g row (by rw [List.getElem?_append_right (Nat.le_refl _),Nat.sub_self];rfl) (by rw [hlen,List.getElem?_append_right (Nat.le_refl _),Nat.sub_self];rfl)).set i x
end Go.Proofs.YtippdjmpkafifaaGreat
