import Derived.Test.YtippdjmpkafifaaGreatCV15
import Derived.Test.YtippdjmpkafifaaGreatCV7
import Derived.Test.YtippdjmpkafifaaGreatCV13
namespace Go.Proofs.YtippdjmpkafifaaGreat
open Go.RowKit
namespace K
section
variable {nd : Int} {l : List Ro} {ss : List S} {r : List Q} {x : Q}
theorem small33_step (k m:Nat):small33 nd l ss r x (k + 1) m=(find33 nd l ss r x [] m 0).or (small33 nd l ss r x k (m + 1)):=by
 rw [small33]
 cases find33 nd l ss r x [] m 0 <;> rfl
theorem ask_refused (h1:¬ ((plan nd l ss r).2 ≠ 0∨fits33 nd x=false)) (h2:¬ 6≤r.length) (h3:(plan nd l ss (r ++ [x])).2 ≠ 0):(plan nd l ss (r ++ [x])).2=4∧∃ v,small33 nd l ss r x (r.length + 1) 0=some v∧ask33 nd l ss r x=(some r,⟨false,[],v,(refute nd l ss (pick33 r v x)).1.map fun b=>((b.1:Int),b.2)⟩,0):=by
 rcases ask_cases (nd:=nd) (l:=l) (ss:=ss) (r:=r) (x:=x) with ⟨e,g1,g2⟩ | ⟨-,⟨g4,-⟩ | ⟨g4,v,g5,g6⟩⟩
 ·exfalso
  unfold ask33 at g2
  rw [if_neg h1,if_neg h2,if_neg h3] at g2
  split at g2
  ·injection g2 with g3;cases g3
  ·injection g2 with g3;cases g3
 ·exact absurd g4 h3
 ·exact ⟨g4,v,g5,g6⟩
end
end K
theorem NQ.mono {B B':Nat} {L:List Q} (h:NQ B L) (hB:B'≤B):NQ B' L:=fun q hq h0 ad e=>Nat.le_trans hB (h q hq h0 ad e)
theorem same_sn {w:World} {A:Option Addr} {n:Nat} {L M:List S} (h:Shifts w A n L) {A':Option Addr} {n':Nat} {w':World} (h':Shifts w' A' n' M) (e:L.map S.bare=M.map S.bare) {N:Nat} (hM:∀ s ∈ M,s.n≤N):∀ s ∈ L,s.n≤N:=fun s hs=>by
 have h1:=(h.2 s hs).1
 have h2:s.bare ∈ M.map S.bare:=by rw [←e];exact List.mem_map.2 ⟨s,hs,rfl⟩
 obtain ⟨s',h3,h4⟩:=List.mem_map.1 h2
 have h5:s'.l=s.l:=show s'.bare.l=s.bare.l by rw [h4]
 have h6:=(h'.2 s' h3).1
 have:=hM s' h3
 rw [h5] at h6
 omega
structure AV where
 acc:Bool
 PA:Option Addr
 pn:Nat
 pc:Nat
 ts:List TV
 VA:Option Addr
 vn:Nat
 vc:Nat
 v:List Int
 RA:Option Addr
 rn:Nat
 rc:Nat
 bl:List BV
def AV.an (a:AV):K.An:=⟨a.acc,a.ts.map TV.pr,a.v,a.bl.map BV.pr⟩
structure AvAt (w:World) (a:AV):Prop where
 t:Tours w a.PA a.pn a.ts
 v:Ints w a.VA a.vn a.v
 b:Blks w a.RA a.rn a.bl
theorem AvAt.below {w w':World} {a:AV} (h:AvAt w a) (hb:Below w.heap.size w w'):AvAt w' a:=⟨h.t.below hb,h.v.below hb,h.b.below hb⟩
structure AvOk (a:AV):Prop where
 ft:FewT a.pn a.ts
 fv:a.vn≤1000
 fb:FewB a.rn a.bl
def AV.zero:AV:=⟨false,none,0,0,[],none,0,0,[],none,0,0,[]⟩
theorem zero_at (w:World):AvAt w AV.zero:=⟨⟨⟨rfl,rfl,fun h=>absurd h (by decide)⟩,fun y h=>(by cases h)⟩,ints_nil w,⟨⟨rfl,rfl,fun h=>absurd h (by decide)⟩,fun y h=>(by cases h)⟩⟩
theorem zero_ok:AvOk AV.zero:=⟨⟨by decide,fun y h=>(by cases h)⟩,by decide,⟨by decide,fun y h=>(by cases h)⟩⟩
structure AvNew (B:Nat) (a:AV):Prop where
 p:∀ ad,a.PA=some ad→B≤ad.block
 t:∀ y ∈ a.ts,(0 < y.n→∀ ad,y.A=some ad→B≤ad.block)∧(0 < y.n'→∀ ad,y.A'=some ad→B≤ad.block)
 v:∀ ad,a.VA=some ad→B≤ad.block
 r:∀ ad,a.RA=some ad→B≤ad.block
 b:∀ y ∈ a.bl,(0 < y.vn→∀ ad,y.V=some ad→B≤ad.block)∧(0 < y.ln→∀ ad,y.LA=some ad→B≤ad.block)
theorem zero_new (B:Nat):AvNew B AV.zero:=⟨fun ad e=>(by cases e),fun y h=>(by cases h),fun ad e=>(by cases e),fun ad e=>(by cases e),fun y h=>(by cases h)⟩
structure BkNew (B:Nat) (x:Cs):Prop where
 n:0 < x.n→∀ ad,x.A=some ad→B≤ad.block
 s:∀ ad,x.SA=some ad→B≤ad.block
 r:∀ s ∈ x.ss,0 < s.n→∀ ad,s.A=some ad→B≤ad.block
 q:∀ ad,x.B=some ad→B≤ad.block
 w:NQ B x.r
def Cs.zero:Cs:=⟨0,none,0,0,[],none,0,0,[],none,0,0,[]⟩
def BookAt (w:World) (x x':Cs) (o:Option (List Q)):Prop:=match o with
 | none=>x'=Cs.zero
 | some r=>x'.nd=x.nd∧x'.l=x.l∧x'.n=x.n∧x'.sn=x.sn∧CsAt w x'∧x'.ss.map S.bare=x.ss.map S.bare∧x'.r.map Q.bare=r.map Q.bare
def RetAsk (w w':World) (x:Cs) (R:Option (List Q) × K.An × Int) (e:Ending):Prop :=
 (∃ (x':Cs) (a:AV),e=.returned (.tuple #[.agg #[.int .i64 x'.nd,.slice x'.A x'.n x'.c,.slice x'.SA x'.sn x'.sc,.slice x'.B x'.m x'.d],.agg #[.bool a.acc,.slice a.PA a.pn a.pc,.slice a.VA a.vn a.vc,.slice a.RA a.rn a.rc],.int .i64 R.2.2])∧AvAt w' a∧AvOk a∧a.an=R.2.1∧BookAt w' x x' R.1∧AvNew w.heap.size a∧BkNew w.heap.size x')∧Below w.heap.size w w'
theorem retAsk_zero {w w':World} {x:Cs} {R:Option (List Q) × K.An × Int} {er:Int} (h:R=(none,K.An.zero,er)) (hb:Below w.heap.size w w'):RetAsk w w' x R (.returned (.tuple #[.agg #[.int .i64 0,.slice none 0 0,.slice none 0 0,.slice none 0 0],.agg #[.bool false,.slice none 0 0,.slice none 0 0,.slice none 0 0],.int .i64 er])):=by
 subst h
 exact ⟨⟨Cs.zero,AV.zero,rfl,zero_at w',zero_ok,rfl,rfl,zero_new _,⟨fun _ ad e=>(by cases e),fun ad e=>(by cases e),fun s h=>(by cases h),fun ad e=>(by cases e),fun q h=>(by cases h)⟩⟩,hb⟩
theorem Lst.sets {α:Type} {f:α→List Value} {s:Nat} {w:World} {A:Option Addr} {n:Nat} {l:List α} (h:Lst f s w A n l) (M:List (Addr × Value)) (hM:0 < n→∀ ad,A=some ad→∀ p ∈ M,p.1.block ≠ ad.block):Lst f s (Sets w M) A n l:=⟨h.1,h.2.sets M hM⟩
theorem Tours.sets {w:World} {A:Option Addr} {n:Nat} {l:List TV} (h:Tours w A n l) (M:List (Addr × Value)) {B:Nat} (hA:∀ ad,A=some ad→B≤ad.block) (hl:∀ y ∈ l,(0 < y.n→∀ ad,y.A=some ad→B≤ad.block)∧(0 < y.n'→∀ ad,y.A'=some ad→B≤ad.block)) (hM:∀ p ∈ M,p.1.block < B):Tours (Sets w M) A n l :=
 ⟨Lst.sets h.1 M (fun _ ad e p hp=>by have:=hA ad e;have:=hM p hp;omega),fun y hy=>⟨(h.2 y hy).1.sets M (fun h0 ad e p hp=>by have:=(hl y hy).1 h0 ad e;have:=hM p hp;omega),(h.2 y hy).2.sets M (fun h0 ad e p hp=>by have:=(hl y hy).2 h0 ad e;have:=hM p hp;omega)⟩⟩
theorem Blks.sets {w:World} {A:Option Addr} {n:Nat} {l:List BV} (h:Blks w A n l) (M:List (Addr × Value)) {B:Nat} (hA:∀ ad,A=some ad→B≤ad.block) (hl:∀ y ∈ l,(0 < y.vn→∀ ad,y.V=some ad→B≤ad.block)∧(0 < y.ln→∀ ad,y.LA=some ad→B≤ad.block)) (hM:∀ p ∈ M,p.1.block < B):Blks (Sets w M) A n l :=
 ⟨Lst.sets h.1 M (fun _ ad e p hp=>by have:=hA ad e;have:=hM p hp;omega),fun y hy=>⟨(h.2 y hy).1.sets M (fun h0 ad e p hp=>by have:=(hl y hy).1 h0 ad e;have:=hM p hp;omega),Lst.sets (h.2 y hy).2 M (fun h0 ad e p hp=>by have:=(hl y hy).2 h0 ad e;have:=hM p hp;omega)⟩⟩
theorem Shifts.sets {w:World} {A:Option Addr} {n:Nat} {l:List S} (h:Shifts w A n l) (M:List (Addr × Value)) {B:Nat} (hA:∀ ad,A=some ad→B≤ad.block) (hl:∀ s ∈ l,0 < s.n→∀ ad,s.A=some ad→B≤ad.block) (hM:∀ p ∈ M,p.1.block < B):Shifts (Sets w M) A n l :=
 ⟨Lst.sets h.1 M (fun _ ad e p hp=>by have:=hA ad e;have:=hM p hp;omega),fun y hy=>(h.2 y hy).sets M (fun h0 ad e p hp=>by have:=hl y hy h0 ad e;have:=hM p hp;omega)⟩
theorem Reqs.sets {w:World} {A:Option Addr} {n:Nat} {l:List Q} (h:Reqs w A n l) (M:List (Addr × Value)) {B:Nat} (hA:∀ ad,A=some ad→B≤ad.block) (hl:NQ B l) (hM:∀ p ∈ M,p.1.block < B):Reqs (Sets w M) A n l :=
 ⟨h.1,h.2.1.sets M (fun _ ad e p hp=>by have:=hA ad e;have:=hM p hp;omega),fun q hq=>⟨(h.2.2 q hq).1,(h.2.2 q hq).2.sets M (fun h0 ad e p hp=>by have:=hl q hq h0 ad e;have:=hM p hp;omega)⟩⟩
theorem Reqs.take {w:World} {A:Option Addr} {n m:Nat} {l:List Q} (h:Reqs w A n l) (hm:m≤n):Reqs w A m (l.take m):=by
 obtain ⟨h1,h2,h3⟩:=h
 refine ⟨by rw [List.length_take];omega,?_,fun q hq=>h3 q (List.mem_of_mem_take hq)⟩
 refine ⟨by rw [reqCells_len,List.length_take];rw [Nat.min_eq_left (by omega)],fun h0=>?_⟩
 obtain ⟨ad,e,hc⟩:=h2.2 (by omega)
 refine ⟨ad,e,fun j u hu=>hc j u ?_⟩
 have e2:reqCells l=reqCells (l.take m) ++ reqCells (l.drop m):=by
  rw [reqCells_flat,reqCells_flat,reqCells_flat,←List.flatMap_append,List.take_append_drop]
 rw [e2,List.getElem?_append_left (List.getElem?_eq_some_iff.1 hu).1]
 exact hu
theorem NQ.take {B:Nat} {l:List Q} (h:NQ B l) (m:Nat):NQ B (l.take m):=fun q hq=>h q (List.mem_of_mem_take hq)
set_option maxHeartbeats 2000000 in
theorem set8_blk {w:World} {g h:Nat} {x0 x1 x2 x3 u0 u1 u2 u3:Value} {t t':TypeId} (hg:w.heap[g]? = some (.cells #[x0,x1,x2,x3] t (0,0))) (hh:w.heap[h]? = some (.cells #[u0,u1,u2,u3] t' (0,0))) (hne:g ≠ h) (y0 y1 y2 y3 z0 z1 z2 z3:Value) :
  (Sets w [(⟨g,0,none⟩,y0),(⟨g,1,none⟩,y1),(⟨g,2,none⟩,y2),(⟨g,3,none⟩,y3),(⟨h,0,none⟩,z0),(⟨h,1,none⟩,z1),(⟨h,2,none⟩,z2),(⟨h,3,none⟩,z3)]).heap[g]? = some (.cells #[y0,y1,y2,y3] t (0,0)) ∧
  (Sets w [(⟨g,0,none⟩,y0),(⟨g,1,none⟩,y1),(⟨g,2,none⟩,y2),(⟨g,3,none⟩,y3),(⟨h,0,none⟩,z0),(⟨h,1,none⟩,z1),(⟨h,2,none⟩,z2),(⟨h,3,none⟩,z3)]).heap[h]? = some (.cells #[z0,z1,z2,z3] t' (0,0)):=by
 obtain ⟨wy,hwy⟩:∃ wy,wy=Sets w [(⟨g,0,none⟩,y0),(⟨g,1,none⟩,y1),(⟨g,2,none⟩,y2),(⟨g,3,none⟩,y3)]:=⟨_,rfl⟩
 have h1:wy.heap[g]? = some (.cells #[y0,y1,y2,y3] t (0,0)):=by rw [hwy];exact set4_blk hg _ _ _ _
 have h2:wy.heap[h]? = some (.cells #[u0,u1,u2,u3] t' (0,0)):=by
  rw [hwy]
  exact (Sets.other _ w h (fun p hp=>by rw [set4_in hp];exact hne)).trans hh
 have e:Sets w [(⟨g,0,none⟩,y0),(⟨g,1,none⟩,y1),(⟨g,2,none⟩,y2),(⟨g,3,none⟩,y3),(⟨h,0,none⟩,z0),(⟨h,1,none⟩,z1),(⟨h,2,none⟩,z2),(⟨h,3,none⟩,z3)] = Sets wy [(⟨h,0,none⟩,z0),(⟨h,1,none⟩,z1),(⟨h,2,none⟩,z2),(⟨h,3,none⟩,z3)]:=by rw [hwy];simp only [Sets]
 rw [e]
 exact ⟨(Sets.other _ wy g (fun p hp=>by rw [set4_in hp];exact hne.symm)).trans h1,set4_blk h2 _ _ _ _⟩
set_option maxHeartbeats 2000000 in
theorem set8_in {g h:Nat} {y0 y1 y2 y3 z0 z1 z2 z3:Value} {p:Addr × Value} (hp:p ∈ [((⟨g,0,none⟩:Addr),y0),(⟨g,1,none⟩,y1),(⟨g,2,none⟩,y2),(⟨g,3,none⟩,y3),(⟨h,0,none⟩,z0),(⟨h,1,none⟩,z1),(⟨h,2,none⟩,z2),(⟨h,3,none⟩,z3)]):p.1.block=g∨p.1.block=h:=by
 simp only [List.mem_cons,List.not_mem_nil,or_false] at hp
 rcases hp with rfl | rfl | rfl | rfl | rfl | rfl | rfl | rfl
 ·exact .inl rfl
 ·exact .inl rfl
 ·exact .inl rfl
 ·exact .inl rfl
 ·exact .inr rfl
 ·exact .inr rfl
 ·exact .inr rfl
 ·exact .inr rfl
set_option maxHeartbeats 2000000 in
theorem ask_results (tmps:Array Value) (wz:World) (a b:Nat) (y0 y1 y2 y3 z0 z1 z2 z3:Value) (er:Int) (h4:tmps.getD 4 undef=.pointer (some ⟨a,0,none⟩)) (h5:tmps.getD 5 undef=.pointer (some ⟨b,0,none⟩)) (h6:tmps.getD 6 undef=.int .i64 er)
  (ha:wz.heap[a]? = some (.cells #[y0,y1,y2,y3] 44 (0,0))) (hb:wz.heap[b]? = some (.cells #[z0,z1,z2,z3] 50 (0,0))) :
  (results Tryz.f33 tmps).run Tryz.prog wz=.ok (.tuple #[.agg #[y0,y1,y2,y3],.agg #[z0,z1,z2,z3],.int .i64 er]) wz:=by
 have c0:=blk_cell ha 0 y0 rfl
 have c1:=blk_cell ha 1 y1 rfl
 have c2:=blk_cell ha 2 y2 rfl
 have c3:=blk_cell ha 3 y3 rfl
 have d0:=blk_cell hb 0 z0 rfl
 have d1:=blk_cell hb 1 z1 rfl
 have d2:=blk_cell hb 2 z2 rfl
 have d3:=blk_cell hb 3 z3 rfl
 rw [results_cells2_tmp (fn:=Tryz.f33) rfl,h4,h5,h6]
 simp [go_sem,c0,c1,c2,c3,d0,d1,d2,d3]
set_option maxRecDepth 100000 in
set_option maxHeartbeats 32000000 in
theorem ask_any (x:Cs) (q:Q) (w:World) (hx:Ok33 w x q) (hxn:x.n≤1000000) (hxs:x.sn≤1000000) (hxr:∀ s ∈ x.ss,s.n≤1000000) :
  Calls Tryz.prog 33 #[.agg #[.int .i64 x.nd,.slice x.A x.n x.c,.slice x.SA x.sn x.sc,.slice x.B x.m x.d],.agg #[.int .i64 q.node,.int .i64 q.room,.int .i64 q.kilos,.int .i64 q.service,.int .i64 q.frm,.int .i64 q.by_,.slice q.A q.n q.c]] w fun e w'=>RetAsk w w' x (K.ask33 x.nd x.l x.ss x.r q) e:=by
 obtain ⟨w0,hw0⟩:∃ w0:World,w0=w.alloc (.cells #[.int .i64 x.nd,.slice x.A x.n x.c,.slice x.SA x.sn x.sc,.slice x.B x.m x.d] 44):=⟨_,rfl⟩
 have z0:w0.heap.size=w.heap.size + 1:=by rw [hw0];exact World.size_alloc _ _
 have b0:Below w.heap.size w w0:=by rw [hw0];exact (Below.refl _ _).alloc (Nat.le_refl _) _
 have hN0:BkBlk w0 w.heap.size x:=by rw [hw0];exact BkBlk.new _ _
 obtain ⟨w1,hw1⟩:∃ w1:World,w1=w0.alloc (.cells #[.int .i64 q.node,.int .i64 q.room,.int .i64 q.kilos,.int .i64 q.service,.int .i64 q.frm,.int .i64 q.by_,.slice q.A q.n q.c] 47):=⟨_,rfl⟩
 have z1:w1.heap.size=w.heap.size + 1 + 1:=by rw [hw1,World.size_alloc,z0]
 have b1:Below w0.heap.size w0 w1:=by rw [hw1];exact (Below.refl _ _).alloc (Nat.le_refl _) _
 have hB1:QBlk w1 (w.heap.size + 1) q:=by rw [hw1,←z0];exact QBlk.new _ _
 obtain ⟨w2,hw2⟩:∃ w2:World,w2=w1.alloc (.cells #[.int .i64 0,.slice none 0 0,.slice none 0 0,.slice none 0 0] 44):=⟨_,rfl⟩
 have z2:w2.heap.size=w.heap.size + 1 + 1 + 1:=by rw [hw2,World.size_alloc,z1]
 have b2:Below w1.heap.size w1 w2:=by rw [hw2];exact (Below.refl _ _).alloc (Nat.le_refl _) _
 have hA2:w2.heap[w.heap.size + 1 + 1]? = some (.cells #[.int .i64 0,.slice none 0 0,.slice none 0 0,.slice none 0 0] 44 (0,0)):=by rw [hw2,←z1];exact heap_alloc_new _ _
 obtain ⟨w3,hw3⟩:∃ w3:World,w3=w2.alloc (.cells #[.bool false,.slice none 0 0,.slice none 0 0,.slice none 0 0] 50):=⟨_,rfl⟩
 have z3:w3.heap.size=w.heap.size + 1 + 1 + 1 + 1:=by rw [hw3,World.size_alloc,z2]
 have b3:Below w2.heap.size w2 w3:=by rw [hw3];exact (Below.refl _ _).alloc (Nat.le_refl _) _
 have hA3:w3.heap[w.heap.size + 1 + 1 + 1]? = some (.cells #[.bool false,.slice none 0 0,.slice none 0 0,.slice none 0 0] 50 (0,0)):=by rw [hw3,←z2];exact heap_alloc_new _ _
 have b23:=bel b2 b3
 have b13:=bel b1 b23
 have hb3:=bel b0 b13
 have h03:=hb3.size
 have HMK:=Lib.hid (show ∀ w',Below w3.heap.size w3 w'→(fun w':World=>w'.cell? ⟨w.heap.size,0,none⟩=some (.int .i64 x.nd)∧w'.cell? ⟨w.heap.size,1,none⟩=some (.slice x.A x.n x.c)∧w'.cell? ⟨w.heap.size,2,none⟩=some (.slice x.SA x.sn x.sc)∧w'.cell? ⟨w.heap.size,3,none⟩=some (.slice x.B x.m x.d)∧w'.cell? ⟨w.heap.size + 1,0,none⟩=some (.int .i64 q.node)∧w'.cell? ⟨w.heap.size + 1,1,none⟩=some (.int .i64 q.room)∧w'.cell? ⟨w.heap.size + 1,2,none⟩=some (.int .i64 q.kilos)∧w'.cell? ⟨w.heap.size + 1,3,none⟩=some (.int .i64 q.service)∧w'.cell? ⟨w.heap.size + 1,4,none⟩=some (.int .i64 q.frm)∧w'.cell? ⟨w.heap.size + 1,5,none⟩=some (.int .i64 q.by_)∧w'.cell? ⟨w.heap.size + 1,6,none⟩=some (.slice q.A q.n q.c)) w' from fun w' h=>BQ.mk' ((hN0.below b13).below h) ((hB1.below b23).below h))
 have HZA:=Lib.hid (show ∀ w',Below w3.heap.size w3 w'→w'.heap[w.heap.size + 1 + 1]? = some (.cells #[.int .i64 0,.slice none 0 0,.slice none 0 0,.slice none 0 0] 44 (0,0))∧w'.heap[w.heap.size + 1 + 1 + 1]? = some (.cells #[.bool false,.slice none 0 0,.slice none 0 0,.slice none 0 0] 50 (0,0)) from fun w' h=>⟨blk_below h (blk_below b3 hA2),blk_below h hA3⟩)
 have hx3:=hx.below hb3
 have HRN:=Lib.hid hx.cs.reqs.1
 have hm9:=hx.m
 have CP:=plan32_any x w3 hx3.cs
 obtain ⟨R,hR⟩:∃ R,R=K.ask33 x.nd x.l x.ss x.r q:=⟨_,rfl⟩
 have HR:=Lib.hid hR
 obtain ⟨e1,he1⟩:∃ e1,e1=(K.plan x.nd x.l x.ss x.r).2:=⟨_,rfl⟩
 have HE1:=Lib.hid he1
 obtain ⟨p0,p1,p2,p3,c0,c1,c2,c3,c4,c5,c6⟩:=HMK.out w3 (Below.refl _ _)
 rw [←hR]
 go_enter Tryz.func33,Tryz.ntmps33
 rw [hw3,hw2,hw1,hw0] at p0 p1 p2 p3
 go_wp2_with fail
 rw [←hw0,←hw1,←hw2,←hw3]
 clear hw0 hw1 hw2 hw3 z0 z1 z2 b0 b1 b2 b3 b23 b13 hN0 hB1 hA2 hA3 p0 p1 p2 p3 c0 c1 c2 c3 c4 c5 c6 hR
 refine CP.mono ?_
 rintro e w4 ⟨⟨PA,pn,pc,pl,rfl,-,-,-⟩,b4⟩
 rw [←he1]
 clear CP he1
 have hb4:=bel hb3 b4
 by_cases h1:e1=0
 rotate_left
 ·have HX:=Lib.hid (show R=(none,K.An.zero,1) by rw [HR.out];unfold K.ask33;rw [if_pos (.inl (by rw [←HE1.out];exact h1))])
  have d1:(e1 != 0)=true:=by simp [bne,h1]
  obtain ⟨hz2,hz3⟩:=HZA.out w4 b4
  have f2:=blk_free hz2
  have f3:=blk_free hz3
  have y0:=blk_cell hz2 0 _ rfl
  have y1:=blk_cell hz2 1 _ rfl
  have y2:=blk_cell hz2 2 _ rfl
  have y3:=blk_cell hz2 3 _ rfl
  have v0:=blk_cell hz3 0 _ rfl
  have v1:=blk_cell hz3 1 _ rfl
  have v2:=blk_cell hz3 2 _ rfl
  have v3:=blk_cell hz3 3 _ rfl
  go_wp2_with fail
  obtain ⟨Ms,hMs⟩:∃ Ms:List (Addr × Value),Ms=[(⟨w.heap.size + 1 + 1,0,none⟩,.int .i64 0),(⟨w.heap.size + 1 + 1,1,none⟩,.slice none 0 0),(⟨w.heap.size + 1 + 1,2,none⟩,.slice none 0 0),(⟨w.heap.size + 1 + 1,3,none⟩,.slice none 0 0),(⟨w.heap.size + 1 + 1 + 1,0,none⟩,.bool false),(⟨w.heap.size + 1 + 1 + 1,1,none⟩,.slice none 0 0),(⟨w.heap.size + 1 + 1 + 1,2,none⟩,.slice none 0 0),(⟨w.heap.size + 1 + 1 + 1,3,none⟩,.slice none 0 0)]:=⟨_,rfl⟩
  have hMb:∀ p ∈ Ms,p.1.block=w.heap.size + 1 + 1∨p.1.block=w.heap.size + 1 + 1 + 1:=fun p hp=>by rw [hMs] at hp;exact set8_in hp
  obtain ⟨wz,hwz⟩:∃ wz,wz=Sets w4 Ms:=⟨_,rfl⟩
  have hS8:=set8_blk hz2 hz3 (by omega) (.int .i64 0) (.slice none 0 0) (.slice none 0 0) (.slice none 0 0) (.bool false) (.slice none 0 0) (.slice none 0 0) (.slice none 0 0)
  rw [←hMs,←hwz] at hS8
  have hbz:Below w.heap.size w wz:=by rw [hwz];exact hb4.trans (Sets.below Ms _ _ (Below.refl _ _) (fun p hp=>by rcases hMb p hp with e | e <;> rw [e] <;> omega))
  have hwz2:=hwz
  simp only [hMs,Sets] at hwz2
  rw [←hwz2]
  refine bodyPost_ret_by (v:=.tuple #[.agg #[.int .i64 0,.slice none 0 0,.slice none 0 0,.slice none 0 0],.agg #[.bool false,.slice none 0 0,.slice none 0 0,.slice none 0 0],.int .i64 1]) (ask_results _ wz (w.heap.size + 1 + 1) (w.heap.size + 1 + 1 + 1) (.int .i64 0) (.slice none 0 0) (.slice none 0 0) (.slice none 0 0) (.bool false) (.slice none 0 0) (.slice none 0 0) (.slice none 0 0) 1 rfl rfl rfl hS8.1 hS8.2) rfl ?_
  exact retAsk_zero HX.out hbz
 have d1:(e1 != 0)=false:=by simp [h1]
 have d0:decide (e1=0)=true:=by simp [h1]
 obtain ⟨p0,p1,p2,p3,c0,c1,c2,c3,c4,c5,c6⟩:=HMK.out _ b4
 have CF:=fits94_any x.nd x.A x.n x.c q w4 (hx3.below b4).req (by have:=hx.q;omega)
 obtain ⟨z,hz⟩:∃ z,z=K.fits33 x.nd q:=⟨_,rfl⟩
 rw [←hz] at CF
 have HZ:=Lib.hid hz
 clear hz
 go_wp2_with fail
 refine CF.mono ?_
 rintro e w5 ⟨rfl,b5⟩
 clear CF d0 d1
 clear p0 p1 p2 p3 c0 c1 c2 c3 c4 c5 c6
 have b45:=bel b4 b5
 have hb5:=bel hb3 b45
 cases z
 ·have HX:=Lib.hid (show R=(none,K.An.zero,1) by rw [HR.out];unfold K.ask33;rw [if_pos (.inr HZ.out.symm)])
  obtain ⟨hz2,hz3⟩:=HZA.out _ b45
  have f2:=blk_free hz2
  have f3:=blk_free hz3
  have y0:=blk_cell hz2 0 _ rfl
  have y1:=blk_cell hz2 1 _ rfl
  have y2:=blk_cell hz2 2 _ rfl
  have y3:=blk_cell hz2 3 _ rfl
  have v0:=blk_cell hz3 0 _ rfl
  have v1:=blk_cell hz3 1 _ rfl
  have v2:=blk_cell hz3 2 _ rfl
  have v3:=blk_cell hz3 3 _ rfl
  go_wp2_with fail
  obtain ⟨Ms,hMs⟩:∃ Ms:List (Addr × Value),Ms=[(⟨w.heap.size + 1 + 1,0,none⟩,.int .i64 0),(⟨w.heap.size + 1 + 1,1,none⟩,.slice none 0 0),(⟨w.heap.size + 1 + 1,2,none⟩,.slice none 0 0),(⟨w.heap.size + 1 + 1,3,none⟩,.slice none 0 0),(⟨w.heap.size + 1 + 1 + 1,0,none⟩,.bool false),(⟨w.heap.size + 1 + 1 + 1,1,none⟩,.slice none 0 0),(⟨w.heap.size + 1 + 1 + 1,2,none⟩,.slice none 0 0),(⟨w.heap.size + 1 + 1 + 1,3,none⟩,.slice none 0 0)]:=⟨_,rfl⟩
  have hMb:∀ p ∈ Ms,p.1.block=w.heap.size + 1 + 1∨p.1.block=w.heap.size + 1 + 1 + 1:=fun p hp=>by rw [hMs] at hp;exact set8_in hp
  obtain ⟨wz,hwz⟩:∃ wz,wz=Sets w5 Ms:=⟨_,rfl⟩
  have hS8:=set8_blk hz2 hz3 (by omega) (.int .i64 0) (.slice none 0 0) (.slice none 0 0) (.slice none 0 0) (.bool false) (.slice none 0 0) (.slice none 0 0) (.slice none 0 0)
  rw [←hMs,←hwz] at hS8
  have hbz:Below w.heap.size w wz:=by rw [hwz];exact hb5.trans (Sets.below Ms _ _ (Below.refl _ _) (fun p hp=>by rcases hMb p hp with e | e <;> rw [e] <;> omega))
  have hwz2:=hwz
  simp only [hMs,Sets] at hwz2
  rw [←hwz2]
  refine bodyPost_ret_by (v:=.tuple #[.agg #[.int .i64 0,.slice none 0 0,.slice none 0 0,.slice none 0 0],.agg #[.bool false,.slice none 0 0,.slice none 0 0,.slice none 0 0],.int .i64 1]) (ask_results _ wz (w.heap.size + 1 + 1) (w.heap.size + 1 + 1 + 1) (.int .i64 0) (.slice none 0 0) (.slice none 0 0) (.slice none 0 0) (.bool false) (.slice none 0 0) (.slice none 0 0) (.slice none 0 0) 1 rfl rfl rfl hS8.1 hS8.2) rfl ?_
  exact retAsk_zero HX.out hbz
 have HP0:=Lib.hid (show (K.plan x.nd x.l x.ss x.r).2=0 by rw [←HE1.out];exact h1)
 have HNE:=Lib.hid (show ¬ ((K.plan x.nd x.l x.ss x.r).2 ≠ 0∨K.fits33 x.nd q=false) from fun h=>h.elim (fun h=>h HP0.out) (fun h=>by rw [←HZ.out] at h;cases h))
 by_cases h6:6≤x.m
 ·have HX:=Lib.hid (show R=(none,K.An.zero,6) by rw [HR.out];unfold K.ask33;rw [if_neg HNE.out,if_pos (by rw [←HRN.out];exact h6)])
  have d1:decide ((6:Int)≤(x.m:Int))=true:=by simp;omega
  have d2:decide (6≤x.m)=true:=by simp;omega
  obtain ⟨p0,p1,p2,p3,c0,c1,c2,c3,c4,c5,c6⟩:=HMK.out _ b45
  obtain ⟨hz2,hz3⟩:=HZA.out _ b45
  have f2:=blk_free hz2
  have f3:=blk_free hz3
  have y0:=blk_cell hz2 0 _ rfl
  have y1:=blk_cell hz2 1 _ rfl
  have y2:=blk_cell hz2 2 _ rfl
  have y3:=blk_cell hz2 3 _ rfl
  have v0:=blk_cell hz3 0 _ rfl
  have v1:=blk_cell hz3 1 _ rfl
  have v2:=blk_cell hz3 2 _ rfl
  have v3:=blk_cell hz3 3 _ rfl
  go_wp2_with fail
  obtain ⟨Ms,hMs⟩:∃ Ms:List (Addr × Value),Ms=[(⟨w.heap.size + 1 + 1,0,none⟩,.int .i64 0),(⟨w.heap.size + 1 + 1,1,none⟩,.slice none 0 0),(⟨w.heap.size + 1 + 1,2,none⟩,.slice none 0 0),(⟨w.heap.size + 1 + 1,3,none⟩,.slice none 0 0),(⟨w.heap.size + 1 + 1 + 1,0,none⟩,.bool false),(⟨w.heap.size + 1 + 1 + 1,1,none⟩,.slice none 0 0),(⟨w.heap.size + 1 + 1 + 1,2,none⟩,.slice none 0 0),(⟨w.heap.size + 1 + 1 + 1,3,none⟩,.slice none 0 0)]:=⟨_,rfl⟩
  have hMb:∀ p ∈ Ms,p.1.block=w.heap.size + 1 + 1∨p.1.block=w.heap.size + 1 + 1 + 1:=fun p hp=>by rw [hMs] at hp;exact set8_in hp
  obtain ⟨wz,hwz⟩:∃ wz,wz=Sets w5 Ms:=⟨_,rfl⟩
  have hS8:=set8_blk hz2 hz3 (by omega) (.int .i64 0) (.slice none 0 0) (.slice none 0 0) (.slice none 0 0) (.bool false) (.slice none 0 0) (.slice none 0 0) (.slice none 0 0)
  rw [←hMs,←hwz] at hS8
  have hbz:Below w.heap.size w wz:=by rw [hwz];exact hb5.trans (Sets.below Ms _ _ (Below.refl _ _) (fun p hp=>by rcases hMb p hp with e | e <;> rw [e] <;> omega))
  have hwz2:=hwz
  simp only [hMs,Sets] at hwz2
  rw [←hwz2]
  refine bodyPost_ret_by (v:=.tuple #[.agg #[.int .i64 0,.slice none 0 0,.slice none 0 0,.slice none 0 0],.agg #[.bool false,.slice none 0 0,.slice none 0 0,.slice none 0 0],.int .i64 6]) (ask_results _ wz (w.heap.size + 1 + 1) (w.heap.size + 1 + 1 + 1) (.int .i64 0) (.slice none 0 0) (.slice none 0 0) (.slice none 0 0) (.bool false) (.slice none 0 0) (.slice none 0 0) (.slice none 0 0) 6 rfl rfl rfl hS8.1 hS8.2) rfl ?_
  exact retAsk_zero HX.out hbz
 have d1:decide ((6:Int)≤(x.m:Int))=false:=by simp;omega
 have d2:decide (6≤x.m)=false:=by simp;omega
 obtain ⟨p0,p1,p2,p3,c0,c1,c2,c3,c4,c5,c6⟩:=HMK.out _ b45
 have hbd:Below w5.heap.size w5 w5.drew:=(Below.refl _ _).drew
 have b5d:=bel b45 hbd
 have S0:=HMK.out _ b45
 have S0d:=HMK.out _ b5d
 have hx5:=hx3.below b5d
 have HIO:=Lib.hid (show ∀ i ∈ K.iota x.m,0≤i∧i < (x.r.length:Int) from fun i hi=>by have:=K.mem_iota.1 hi;have:=HRN.out;omega)
 go_upto_region 6 with fail
 clear d1 d2
 clear p0 p1 p2 p3 c0 c1 c2 c3 c4 c5 c6
 go_region_held3 (fun w':World=>w'.cell? ⟨w.heap.size,0,none⟩=some (.int .i64 x.nd)∧w'.cell? ⟨w.heap.size,1,none⟩=some (.slice x.A x.n x.c)∧w'.cell? ⟨w.heap.size,2,none⟩=some (.slice x.SA x.sn x.sc)∧w'.cell? ⟨w.heap.size,3,none⟩=some (.slice x.B x.m x.d)∧w'.cell? ⟨w.heap.size + 1,0,none⟩=some (.int .i64 q.node)∧w'.cell? ⟨w.heap.size + 1,1,none⟩=some (.int .i64 q.room)∧w'.cell? ⟨w.heap.size + 1,2,none⟩=some (.int .i64 q.kilos)∧w'.cell? ⟨w.heap.size + 1,3,none⟩=some (.int .i64 q.service)∧w'.cell? ⟨w.heap.size + 1,4,none⟩=some (.int .i64 q.frm)∧w'.cell? ⟨w.heap.size + 1,5,none⟩=some (.int .i64 q.by_)∧w'.cell? ⟨w.heap.size + 1,6,none⟩=some (.slice q.A q.n q.c))
  (first | with_reducible exact S2 | with_reducible exact S1 | with_reducible exact S0d | with_reducible exact S0 | fail)
  (first
   | (go_at_call 96;refine (numbers_any x.m _ (by omega)).mono ?_;rintro e w6 ⟨⟨V6,k6,rfl,hI6⟩,b6⟩;have b6r:=bel b5d b6;have S1:=HMK.out _ b6r)
   | (go_at_call 95;refine (with_any x.B x.m x.d x.r V6 x.m k6 (K.iota x.m) q _ (hx5.below b6).cs.reqs hI6 HIO.out (hx5.below b6).req hx.qs hx.q (by omega)).mono ?_;rintro e w7 ⟨⟨A7,k7,L7,rfl,hL7,hLb,hk7,hA7,hN7⟩,b7⟩;have b7r:=bel b6r b7;have S2:=HMK.out _ b7r)
   | fail)
 have hb7:=bel hb3 b7r
 have hx7:=hx3.below b7r
 have HLB:=Lib.hid (show L7.map Q.bare=(x.r ++ [q]).map Q.bare by rw [hLb,HRN.out,K.pick_iota])
 have hcs7:CsAt w7 (x.with_ A7 (x.m + 1) k7 L7):=hx5.case (bel b6 b7) hL7 hLb (by omega)
 have CP:=plan32X (x.with_ A7 (x.m + 1) k7 L7) w7 hcs7
 obtain ⟨P,hP⟩:∃ P,P=K.plan x.nd x.l x.ss (x.r ++ [q]):=⟨_,rfl⟩
 have HP:=Lib.hid hP
 rw [show K.plan (x.with_ A7 (x.m + 1) k7 L7).nd (x.with_ A7 (x.m + 1) k7 L7).l (x.with_ A7 (x.m + 1) k7 L7).ss (x.with_ A7 (x.m + 1) k7 L7).r=P by rw [hP];exact K.plan_same HLB.out rfl] at CP
 have h67:=b6r.size
 have hA7':∀ ad,A7=some ad→w3.heap.size≤ad.block:=fun ad e=>Nat.le_trans h67 (hA7 ad e)
 have hN7':=hN7.mono h67
 obtain ⟨p0,p1,p2,p3,-⟩:=S2
 have HQN:=Lib.hid (show ∀ p ∈ L7,p.n≤1000000000 from hcs7.b5)
 clear hP S0 S0d S1 hbd b5d hI6 hLb hA7 hN7 h67 hcs7
 go_wp2_with fail
 refine CP.mono ?_
 rintro e w8 ⟨⟨PB,bn,bc,pb,rfl,hT8,hpc8,hpl8,hPA8,hNT8⟩,b8⟩
 clear CP p0 p1 p2 p3
 have b8r:=bel b7r b8
 have hb8:=bel hb3 b8r
 have hL8:=hL7.below b8
 have hx8:=hx3.below b8r
 have h78:=b7r.size
 by_cases h2:P.2=0
 ·have d1:(P.2 == 0)=true:=by simp [h2]
  have d2:decide (P.2=0)=true:=by simp [h2]
  have HX:=Lib.hid (show R=(some (x.r ++ [q]),⟨true,P.1.map fun t=>((t.1:Int),t.2),[],[]⟩,0) by rw [HR.out];unfold K.ask33;rw [if_neg HNE.out,if_neg (by rw [←HRN.out];exact h6),if_pos (by rw [←HP.out];exact h2),HP.out])
  have HCH:=Lib.hid (show K.checks x.nd x.l x.ss (x.r ++ [q]) (P.1.map fun t=>((t.1:Int),t.2))=0 by rw [HP.out] at h2 ⊢;exact K.plan_checks h2)
  obtain ⟨p0,p1,p2,p3,c0,c1,c2,c3,c4,c5,c6⟩:=HMK.out _ b8r
  go_wp2_with fail
  refine (book_any x A7 (x.m + 1) k7 w8 hx8.cs.net hx8.cs.shifts hxn hxs hxr).mono ?_
  rintro e w9 ⟨⟨RA,rc,SA,sc,ss',rfl,hR9,hS9,hsb,hRn,hSn,hrn⟩,b9⟩
  have b9r:=bel b8r b9
  have hb9:=bel hb3 b9r
  have h89:=b8r.size
  clear p0 p1 p2 p3 c0 c1 c2 c3 c4 c5 c6 d1 d2
  obtain ⟨hz2,hz3⟩:=HZA.out _ b9r
  have f2:=blk_free hz2
  have f3:=blk_free hz3
  have y0:=blk_cell hz2 0 _ rfl
  have y1:=blk_cell hz2 1 _ rfl
  have y2:=blk_cell hz2 2 _ rfl
  have y3:=blk_cell hz2 3 _ rfl
  have v0:=blk_cell hz3 0 _ rfl
  have v1:=blk_cell hz3 1 _ rfl
  have v2:=blk_cell hz3 2 _ rfl
  have v3:=blk_cell hz3 3 _ rfl
  go_wp2_with fail
  obtain ⟨Ms,hMs⟩:∃ Ms:List (Addr × Value),Ms=[(⟨w.heap.size + 1 + 1,0,none⟩,.int .i64 x.nd),(⟨w.heap.size + 1 + 1,1,none⟩,.slice RA x.n rc),(⟨w.heap.size + 1 + 1,2,none⟩,.slice SA x.sn sc),(⟨w.heap.size + 1 + 1,3,none⟩,.slice A7 (x.m + 1) k7),(⟨w.heap.size + 1 + 1 + 1,0,none⟩,.bool true),(⟨w.heap.size + 1 + 1 + 1,1,none⟩,.slice PB bn bc),(⟨w.heap.size + 1 + 1 + 1,2,none⟩,.slice none 0 0),(⟨w.heap.size + 1 + 1 + 1,3,none⟩,.slice none 0 0)]:=⟨_,rfl⟩
  have hMb:∀ p ∈ Ms,p.1.block=w.heap.size + 1 + 1∨p.1.block=w.heap.size + 1 + 1 + 1:=fun p hp=>by rw [hMs] at hp;exact set8_in hp
  obtain ⟨wz,hwz⟩:∃ wz,wz=Sets w9 Ms:=⟨_,rfl⟩
  have hS8:=set8_blk hz2 hz3 (by omega) (.int .i64 x.nd) (.slice RA x.n rc) (.slice SA x.sn sc) (.slice A7 (x.m + 1) k7) (.bool true) (.slice PB bn bc) (.slice none 0 0) (.slice none 0 0)
  rw [←hMs,←hwz] at hS8
  have hbz:Below w.heap.size w wz:=by rw [hwz];exact hb9.trans (Sets.below Ms _ _ (Below.refl _ _) (fun p hp=>by rcases hMb p hp with e | e <;> rw [e] <;> omega))
  have hM3:∀ p ∈ Ms,p.1.block < w3.heap.size:=fun p hp=>by rcases hMb p hp with e | e <;> rw [e] <;> omega
  have hTz:Tours wz PB bn pb:=by rw [hwz];exact (hT8.below b9).sets Ms (B:=w3.heap.size) (fun ad e=>Nat.le_trans h78 (hPA8 ad e)) (fun y hy=>⟨fun h0 ad e=>Nat.le_trans h78 ((hNT8 y hy).1 h0 ad e),fun h0 ad e=>Nat.le_trans h78 ((hNT8 y hy).2.1 h0 ad e)⟩) hM3
  have hRz:Roads wz RA x.n x.l:=by rw [hwz];exact Lst.sets hR9 Ms (fun h0 ad e p hp=>by have h1:=hRn h0 ad e;have h2:=hM3 p hp;omega)
  have hSz:Shifts wz SA x.sn ss':=by rw [hwz];exact hS9.sets Ms (B:=w3.heap.size) (fun ad e=>Nat.le_trans h89 (hSn ad e)) (fun s hs h0 ad e=>Nat.le_trans h89 (hrn s hs h0 ad e)) hM3
  have hQz:Reqs wz A7 (x.m + 1) L7:=by rw [hwz];exact (hL8.below b9).sets Ms (B:=w3.heap.size) hA7' hN7' hM3
  have hwz2:=hwz
  simp only [hMs,Sets] at hwz2
  rw [←hwz2]
  refine bodyPost_ret_by (v:=.tuple #[.agg #[.int .i64 x.nd,.slice RA x.n rc,.slice SA x.sn sc,.slice A7 (x.m + 1) k7],.agg #[.bool true,.slice PB bn bc,.slice none 0 0,.slice none 0 0],.int .i64 0]) (ask_results _ wz (w.heap.size + 1 + 1) (w.heap.size + 1 + 1 + 1) (.int .i64 x.nd) (.slice RA x.n rc) (.slice SA x.sn sc) (.slice A7 (x.m + 1) k7) (.bool true) (.slice PB bn bc) (.slice none 0 0) (.slice none 0 0) 0 rfl rfl rfl hS8.1 hS8.2) rfl ?_
  have hpl9:pb.map TV.pr=P.1.map (fun t=>((t.1:Int),t.2)):=hpl8
  have hft:FewT bn pb:=fewT_of hTz (by have h9:=K.checks_few HCH.out;rw [←hpl9] at h9;rw [List.length_map] at h9;exact h9)
  refine ⟨⟨⟨x.nd,RA,x.n,rc,x.l,SA,x.sn,sc,ss',A7,x.m + 1,k7,L7⟩,⟨true,PB,bn,bc,pb,none,0,0,[],none,0,0,[]⟩,by rw [HX.out],⟨hTz,ints_nil _,(zero_at wz).b⟩,⟨hft,Nat.zero_le _,zero_ok.fb⟩,?_,?_,⟨fun ad e=>Nat.le_trans h03 (Nat.le_trans h78 (hPA8 ad e)),fun y hy=>⟨fun h0 ad e=>Nat.le_trans h03 (Nat.le_trans h78 ((hNT8 y hy).1 h0 ad e)),fun h0 ad e=>Nat.le_trans h03 (Nat.le_trans h78 ((hNT8 y hy).2.1 h0 ad e))⟩,(zero_new _).v,(zero_new _).r,(zero_new _).b⟩,⟨fun h0 ad e=>Nat.le_trans h03 (Nat.le_trans h89 (hRn h0 ad e)),fun ad e=>Nat.le_trans h03 (Nat.le_trans h89 (hSn ad e)),fun s hs h0 ad e=>Nat.le_trans h03 (Nat.le_trans h89 (hrn s hs h0 ad e)),fun ad e=>Nat.le_trans h03 (hA7' ad e),hN7'.mono h03⟩⟩,hbz⟩
  ·rw [HX.out]
   unfold AV.an
   dsimp only
   rw [hpl9]
   rfl
  ·rw [HX.out]
   exact ⟨rfl,rfl,rfl,rfl,⟨hRz,hSz,hQz,(show x.n≤1000000000 by omega),fun s hs=>by have:=same_sn hS9 hx8.cs.shifts hsb hxr s hs;omega,(show x.sn≤1000000000 by omega),(show x.m + 1≤1000000000 by omega),HQN.out⟩,hsb,HLB.out⟩
 obtain ⟨h4,v0,hsm0,hask⟩:=K.ask_refused HNE.out (by rw [←HRN.out];exact h6) (by rw [←HP.out];exact h2)
 have HX:=Lib.hid (show R=(some x.r,⟨false,[],v0,(K.refute x.nd x.l x.ss (K.pick33 x.r v0 q)).1.map fun b=>((b.1:Int),b.2)⟩,0) by rw [HR.out];exact hask)
 have d1:(P.2 == 0)=false:=by simp [h2]
 have d2:decide (P.2=0)=false:=by simp [h2]
 have HS0:=Lib.hid hsm0
 clear hsm0 hask h4
 go_wp2_with fail
 clear d1 d2
 go_loopw [12] (fun v12 wr=>∃ k:Nat,v12=.int .i64 k∧k≤x.m + 1∧Hid (K.small33 x.nd x.l x.ss x.r q (x.m + 1 - k) k=some v0)∧Below w8.heap.size w8 wr) (fun v12 _=>x.m + 1 - (intOf v12).toNat)
 case atStart=>exact ⟨0,rfl,Nat.zero_le _,by show _=_;rw [Nat.sub_zero,HRN.out];exact HS0.out,Below.refl _ _⟩
 case round =>
  obtain ⟨k,rfl,hk,hsm,hbr⟩:=hrel
  by_cases hlt:k≤x.m
  rotate_left
  ·exfalso
   have h9:=hsm.out
   rw [show x.m + 1 - k=0 by omega] at h9
   cases h9
  have d1:decide ((k:Int)≤(x.m:Int))=true:=by simp;omega
  have d2:decide (k≤x.m)=true:=by simp;omega
  have b8w:=bel b8r hbr
  obtain ⟨p0,p1,p2,p3,c0,c1,c2,c3,c4,c5,c6⟩:=HMK.out _ b8w
  have CFd:=find_any x q w3.heap.size k 0 none 0 0 [] wr (hx3.below b8w) (ints_nil _) (fun i hi=>(by cases hi)) (by omega) (Nat.zero_le _) b8w.size (fun ad e=>(by cases e))
  rw [show ((0:Nat):Int)=0 from rfl] at CFd
  obtain ⟨o1,ho1⟩:∃ o1,o1=K.find33 x.nd x.l x.ss x.r q [] k 0:=⟨_,rfl⟩
  rw [←ho1] at CFd
  have HST:=Lib.hid (show o1.or (K.small33 x.nd x.l x.ss x.r q (x.m + 1 - (k + 1)) (k + 1))=some v0 by
   rw [ho1,←K.small33_step,show x.m + 1 - (k + 1) + 1=x.m + 1 - k by omega]
   exact hsm.out)
  have HO1:=Lib.hid ho1
  clear ho1 hsm
  go_wp2_with fail
  refine CFd.mono ?_
  rintro e w9 ⟨⟨A9,n9,k9,z9,rfl,hz9,hI9,hF9⟩,b9⟩
  have HZ9:=Lib.hid hz9
  have HI9:=Lib.hid hI9
  have b9r:=bel b8w b9
  have hbr9:=bel hbr b9
  clear CFd hz9 hI9 d1 d2
  clear p0 p1 p2 p3 c0 c1 c2 c3 c4 c5 c6
  cases z9
  ·have HN:=Lib.hid (show K.small33 x.nd x.l x.ss x.r q (x.m + 1 - (k + 1)) (k + 1)=some v0 by
    have h9:=HST.out
    have h8:=HZ9.out
    cases o1 with
    | none=>exact h9
    | some v=>cases h8)
   go_wp2_with fail
   go_roundw
   case rel=>(go_light;exact ⟨k + 1,by go_num,by omega,HN.out,hbr9⟩)
   case measure=>(go_light;simp [intOf];omega)
  ·obtain ⟨v,hv⟩:∃ v,o1=some v:=by
    have h8:=HZ9.out
    cases o1 with
    | none=>cases h8
    | some v=>exact ⟨v,rfl⟩
   have hvv:v=v0:=by
    have h9:=HST.out
    rw [hv] at h9
    injection h9
   subst hvv
   have hI:=HI9.out v hv
   have hvc:v ∈ A.combos x.r.length k 0:=by
    rw [HO1.out] at hv
    unfold K.find33 at hv
    obtain ⟨u,hu,e⟩:=List.mem_map.1 (List.mem_of_find?_eq_some hv)
    rw [List.nil_append] at e
    rw [←e]
    exact hu
   have hvl:=(A.mem_combos.1 hvc).1
   obtain ⟨hva,hvi⟩:=K.combo_in hvc
   have hn9:n9≤100:=by have:=hI.1;omega
   have HVA:=Lib.hid hva
   have HVI:=Lib.hid hvi
   clear hv hvc hva hvi HST HO1 HZ9 HI9 hvl
   have hbd:Below w9.heap.size w9 w9.drew:=(Below.refl _ _).drew
   have b9d:=bel b9r hbd
   have S0:=HMK.out _ b9r
   have S0d:=HMK.out _ b9d
   have hx9:=hx3.below b9d
   go_upto_region 15 with fail
   go_region_held3 (fun w':World=>w'.cell? ⟨w.heap.size,0,none⟩=some (.int .i64 x.nd)∧w'.cell? ⟨w.heap.size,1,none⟩=some (.slice x.A x.n x.c)∧w'.cell? ⟨w.heap.size,2,none⟩=some (.slice x.SA x.sn x.sc)∧w'.cell? ⟨w.heap.size,3,none⟩=some (.slice x.B x.m x.d)∧w'.cell? ⟨w.heap.size + 1,0,none⟩=some (.int .i64 q.node)∧w'.cell? ⟨w.heap.size + 1,1,none⟩=some (.int .i64 q.room)∧w'.cell? ⟨w.heap.size + 1,2,none⟩=some (.int .i64 q.kilos)∧w'.cell? ⟨w.heap.size + 1,3,none⟩=some (.int .i64 q.service)∧w'.cell? ⟨w.heap.size + 1,4,none⟩=some (.int .i64 q.frm)∧w'.cell? ⟨w.heap.size + 1,5,none⟩=some (.int .i64 q.by_)∧w'.cell? ⟨w.heap.size + 1,6,none⟩=some (.slice q.A q.n q.c))
    (first | with_reducible exact S2 | with_reducible exact S1 | with_reducible exact S0d | with_reducible exact S0 | fail)
    (first
     | (go_at_call 95;refine (with_any x.B x.m x.d x.r A9 n9 k9 v q _ hx9.cs.reqs (hI.below hbd) HVI.out hx9.req hx.qs hx.q (by omega)).mono ?_;rintro e wa ⟨⟨Aa,ka,La,rfl,hLa,hLab,hka,hAa,hNa⟩,ba⟩;have bar:=bel b9d ba;have S1:=HMK.out _ bar)
     | (go_at_call 22;refine (refute32X (x.with_ Aa (n9 + 1) ka La) _ (hx9.case ba hLa hLab (by omega))).mono ?_;rintro e wb ⟨⟨RB,rn,rc,bl,rfl,hBb,hrc,hFB,hbl,hRB,hNB⟩,bb⟩;have bbr:=bel bar bb;have S2:=HMK.out _ bbr)
     | fail)
   have HBL:=Lib.hid (show bl.map BV.pr=(K.refute x.nd x.l x.ss (K.pick33 x.r v q)).1.map fun b=>((b.1:Int),b.2) by
    rw [hbl,←K.refute_same hLab rfl]
    rfl)
   have habr:=bar.size
   have hI2:=((hI.below hbd).below ba).below bb
   have hL2:=(((hL8.below hbr9).below hbd).below ba).below bb
   clear S0 S0d S1 S2 hbd b9d hbl hLa hLab hAa hNa hI ba bb bar
   have hbd:Below wb.heap.size wb wb.drew:=(Below.refl _ _).drew
   have bbd:=bel bbr hbd
   have S0:=HMK.out _ bbr
   have S0d:=HMK.out _ bbd
   have hxb:=hx3.below bbd
   have hms:∀ (W:World) (M:List (Addr × Value)),(∀ p ∈ M,p.1.block=w.heap.size + 1 + 1∨p.1.block=w.heap.size + 1 + 1 + 1)→(fun w':World=>w'.cell? ⟨w.heap.size,0,none⟩=some (.int .i64 x.nd)∧w'.cell? ⟨w.heap.size,1,none⟩=some (.slice x.A x.n x.c)∧w'.cell? ⟨w.heap.size,2,none⟩=some (.slice x.SA x.sn x.sc)∧w'.cell? ⟨w.heap.size,3,none⟩=some (.slice x.B x.m x.d)∧w'.cell? ⟨w.heap.size + 1,0,none⟩=some (.int .i64 q.node)∧w'.cell? ⟨w.heap.size + 1,1,none⟩=some (.int .i64 q.room)∧w'.cell? ⟨w.heap.size + 1,2,none⟩=some (.int .i64 q.kilos)∧w'.cell? ⟨w.heap.size + 1,3,none⟩=some (.int .i64 q.service)∧w'.cell? ⟨w.heap.size + 1,4,none⟩=some (.int .i64 q.frm)∧w'.cell? ⟨w.heap.size + 1,5,none⟩=some (.int .i64 q.by_)∧w'.cell? ⟨w.heap.size + 1,6,none⟩=some (.slice q.A q.n q.c)) W→(fun w':World=>w'.cell? ⟨w.heap.size,0,none⟩=some (.int .i64 x.nd)∧w'.cell? ⟨w.heap.size,1,none⟩=some (.slice x.A x.n x.c)∧w'.cell? ⟨w.heap.size,2,none⟩=some (.slice x.SA x.sn x.sc)∧w'.cell? ⟨w.heap.size,3,none⟩=some (.slice x.B x.m x.d)∧w'.cell? ⟨w.heap.size + 1,0,none⟩=some (.int .i64 q.node)∧w'.cell? ⟨w.heap.size + 1,1,none⟩=some (.int .i64 q.room)∧w'.cell? ⟨w.heap.size + 1,2,none⟩=some (.int .i64 q.kilos)∧w'.cell? ⟨w.heap.size + 1,3,none⟩=some (.int .i64 q.service)∧w'.cell? ⟨w.heap.size + 1,4,none⟩=some (.int .i64 q.frm)∧w'.cell? ⟨w.heap.size + 1,5,none⟩=some (.int .i64 q.by_)∧w'.cell? ⟨w.heap.size + 1,6,none⟩=some (.slice q.A q.n q.c)) (Sets W M):=fun W M hM h=>by
    have mv:∀ (b o:Nat) (u:Value),b < w.heap.size + 1 + 1→W.cell? ⟨b,o,none⟩=some u→(Sets W M).cell? ⟨b,o,none⟩=some u:=fun b o u hb hc=>(World.cell?_of_block (Sets.other M W _ (fun p hp=>by rcases hM p hp with e | e <;> rw [e] <;> (dsimp only;omega)))).trans hc
    obtain ⟨a0,a1,a2,a3,a4,a5,a6,a7,a8,a9,a10⟩:=h
    exact ⟨mv _ _ _ (by omega) a0,mv _ _ _ (by omega) a1,mv _ _ _ (by omega) a2,mv _ _ _ (by omega) a3,mv _ _ _ (by omega) a4,mv _ _ _ (by omega) a5,mv _ _ _ (by omega) a6,mv _ _ _ (by omega) a7,mv _ _ _ (by omega) a8,mv _ _ _ (by omega) a9,mv _ _ _ (by omega) a10⟩
   have HMS:=Lib.hid hms
   have i0:(0:Int)≤(x.m:Int):=by omega
   have hk7':x.m≤k7:=by omega
   have i1:(x.m:Int)≤(k7:Int):=by omega
   clear hms
   go_upto_region 16 with fail
   go_region_held3 (fun w':World=>w'.cell? ⟨w.heap.size,0,none⟩=some (.int .i64 x.nd)∧w'.cell? ⟨w.heap.size,1,none⟩=some (.slice x.A x.n x.c)∧w'.cell? ⟨w.heap.size,2,none⟩=some (.slice x.SA x.sn x.sc)∧w'.cell? ⟨w.heap.size,3,none⟩=some (.slice x.B x.m x.d)∧w'.cell? ⟨w.heap.size + 1,0,none⟩=some (.int .i64 q.node)∧w'.cell? ⟨w.heap.size + 1,1,none⟩=some (.int .i64 q.room)∧w'.cell? ⟨w.heap.size + 1,2,none⟩=some (.int .i64 q.kilos)∧w'.cell? ⟨w.heap.size + 1,3,none⟩=some (.int .i64 q.service)∧w'.cell? ⟨w.heap.size + 1,4,none⟩=some (.int .i64 q.frm)∧w'.cell? ⟨w.heap.size + 1,5,none⟩=some (.int .i64 q.by_)∧w'.cell? ⟨w.heap.size + 1,6,none⟩=some (.slice q.A q.n q.c))
    (first | with_reducible exact S3 | with_reducible exact S2 | with_reducible exact S1 | with_reducible exact S0d | with_reducible exact S0 | fail)
    (first
     | (go_at_call 97;refine (book_any x A7 x.m k7 _ hxb.cs.net hxb.cs.shifts hxn hxs hxr).mono ?_;rintro e wc ⟨⟨RA,rc',SA,sc,ss',rfl,hRc,hSc,hsb,hRn,hSn,hrn⟩,bc⟩;have bcr:=bel bbd bc;have S1:=HMK.out _ bcr;obtain ⟨hz2,hz3⟩:=HZA.out _ bcr;have f2:=blk_free hz2;have f3:=blk_free hz3;have y0:=blk_cell hz2 0 _ rfl;have y1:=blk_cell hz2 1 _ rfl;have y2:=blk_cell hz2 2 _ rfl;have y3:=blk_cell hz2 3 _ rfl;have v0:=blk_cell hz3 0 _ rfl;have v1:=blk_cell hz3 1 _ rfl;have v2:=blk_cell hz3 2 _ rfl;have v3:=blk_cell hz3 3 _ rfl;have S2:=HMS.out wc [((⟨w.heap.size + 1 + 1,0,none⟩:Addr),.int .i64 x.nd),((⟨w.heap.size + 1 + 1,1,none⟩:Addr),.slice RA x.n rc'),((⟨w.heap.size + 1 + 1,2,none⟩:Addr),.slice SA x.sn sc),((⟨w.heap.size + 1 + 1,3,none⟩:Addr),.slice A7 x.m k7)] (fun p hp=>.inl (set4_in hp)) S1;have S3:=HMS.out wc [(⟨w.heap.size + 1 + 1,0,none⟩,.int .i64 x.nd),(⟨w.heap.size + 1 + 1,1,none⟩,.slice RA x.n rc'),(⟨w.heap.size + 1 + 1,2,none⟩,.slice SA x.sn sc),(⟨w.heap.size + 1 + 1,3,none⟩,.slice A7 x.m k7),(⟨w.heap.size + 1 + 1 + 1,0,none⟩,.bool false),(⟨w.heap.size + 1 + 1 + 1,1,none⟩,.slice none 0 0),(⟨w.heap.size + 1 + 1 + 1,2,none⟩,.slice A9 n9 k9),(⟨w.heap.size + 1 + 1 + 1,3,none⟩,.slice RB rn rc)] (fun p hp=>set8_in hp) S1;simp only [Sets] at S2 S3)
     | fail)
   have hIc:=(hI2.below hbd).below bc
   have hLc:=(hL2.below hbd).below bc
   have hBc:=(hBb.below hbd).below bc
   have hbc:=bel hb3 bcr
   have hbbs:=bbd.size
   clear S0 S0d S1 S2 S3 f2 f3 y0 y1 y2 y3 v0 v1 v2 v3 hI2 hL2 hBb bc
   go_wp2_with fail
   obtain ⟨Ms,hMs⟩:∃ Ms:List (Addr × Value),Ms=[(⟨w.heap.size + 1 + 1,0,none⟩,.int .i64 x.nd),(⟨w.heap.size + 1 + 1,1,none⟩,.slice RA x.n rc'),(⟨w.heap.size + 1 + 1,2,none⟩,.slice SA x.sn sc),(⟨w.heap.size + 1 + 1,3,none⟩,.slice A7 x.m k7),(⟨w.heap.size + 1 + 1 + 1,0,none⟩,.bool false),(⟨w.heap.size + 1 + 1 + 1,1,none⟩,.slice none 0 0),(⟨w.heap.size + 1 + 1 + 1,2,none⟩,.slice A9 n9 k9),(⟨w.heap.size + 1 + 1 + 1,3,none⟩,.slice RB rn rc)]:=⟨_,rfl⟩
   have hMb:∀ p ∈ Ms,p.1.block=w.heap.size + 1 + 1∨p.1.block=w.heap.size + 1 + 1 + 1:=fun p hp=>by rw [hMs] at hp;exact set8_in hp
   obtain ⟨wz,hwz⟩:∃ wz,wz=Sets wc Ms:=⟨_,rfl⟩
   have hS8:=set8_blk hz2 hz3 (by omega) (.int .i64 x.nd) (.slice RA x.n rc') (.slice SA x.sn sc) (.slice A7 x.m k7) (.bool false) (.slice none 0 0) (.slice A9 n9 k9) (.slice RB rn rc)
   rw [←hMs,←hwz] at hS8
   have hbz:Below w.heap.size w wz:=by rw [hwz];exact hbc.trans (Sets.below Ms _ _ (Below.refl _ _) (fun p hp=>by rcases hMb p hp with e | e <;> rw [e] <;> omega))
   have hM3:∀ p ∈ Ms,p.1.block < w3.heap.size:=fun p hp=>by rcases hMb p hp with e | e <;> rw [e] <;> omega
   have hIz:Ints wz A9 n9 v:=by rw [hwz];exact hIc.sets Ms (fun h0 ad e p hp=>by have h1:=hF9 ad e;have h2:=hM3 p hp;omega)
   have hBz:Blks wz RB rn bl:=by rw [hwz];exact hBc.sets Ms (B:=w3.heap.size) (fun ad e=>Nat.le_trans habr (hRB ad e)) (fun y hy=>⟨fun h0 ad e=>Nat.le_trans habr ((hNB y hy).1 h0 ad e),fun h0 ad e=>Nat.le_trans habr ((hNB y hy).2 h0 ad e)⟩) hM3
   have hRz:Roads wz RA x.n x.l:=by rw [hwz];exact Lst.sets hRc Ms (fun h0 ad e p hp=>by have h1:=hRn h0 ad e;have h2:=hM3 p hp;omega)
   have hSz:Shifts wz SA x.sn ss':=by rw [hwz];exact hSc.sets Ms (B:=w3.heap.size) (fun ad e=>Nat.le_trans hbbs (hSn ad e)) (fun s hs h0 ad e=>Nat.le_trans hbbs (hrn s hs h0 ad e)) hM3
   have hQz:Reqs wz A7 x.m (L7.take x.m):=by rw [hwz];exact (hLc.take (Nat.le_succ _)).sets Ms (B:=w3.heap.size) hA7' (hN7'.take _) hM3
   have hwz2:=hwz
   simp only [hMs,Sets] at hwz2
   rw [←hwz2]
   refine bodyPost_ret_by (v:=.tuple #[.agg #[.int .i64 x.nd,.slice RA x.n rc',.slice SA x.sn sc,.slice A7 x.m k7],.agg #[.bool false,.slice none 0 0,.slice A9 n9 k9,.slice RB rn rc],.int .i64 0]) (ask_results _ wz (w.heap.size + 1 + 1) (w.heap.size + 1 + 1 + 1) (.int .i64 x.nd) (.slice RA x.n rc') (.slice SA x.sn sc) (.slice A7 x.m k7) (.bool false) (.slice none 0 0) (.slice A9 n9 k9) (.slice RB rn rc) 0 rfl rfl rfl hS8.1 hS8.2) rfl ?_
   refine ⟨⟨⟨x.nd,RA,x.n,rc',x.l,SA,x.sn,sc,ss',A7,x.m,k7,L7.take x.m⟩,⟨false,none,0,0,[],A9,n9,k9,v,RB,rn,rc,bl⟩,by rw [HX.out],⟨(zero_at wz).t,hIz,hBz⟩,⟨zero_ok.ft,(show n9≤1000 by omega),hFB⟩,?_,?_,⟨(zero_new _).p,(zero_new _).t,fun ad e=>Nat.le_trans h03 (hF9 ad e),fun ad e=>Nat.le_trans h03 (Nat.le_trans habr (hRB ad e)),fun y hy=>⟨fun h0 ad e=>Nat.le_trans h03 (Nat.le_trans habr ((hNB y hy).1 h0 ad e)),fun h0 ad e=>Nat.le_trans h03 (Nat.le_trans habr ((hNB y hy).2 h0 ad e))⟩⟩,⟨fun h0 ad e=>Nat.le_trans h03 (Nat.le_trans hbbs (hRn h0 ad e)),fun ad e=>Nat.le_trans h03 (Nat.le_trans hbbs (hSn ad e)),fun s hs h0 ad e=>Nat.le_trans h03 (Nat.le_trans hbbs (hrn s hs h0 ad e)),fun ad e=>Nat.le_trans h03 (hA7' ad e),(hN7'.take _).mono h03⟩⟩,hbz⟩
   ·rw [HX.out]
    unfold AV.an
    dsimp only
    rw [HBL.out]
    rfl
   ·rw [HX.out]
    refine ⟨rfl,rfl,rfl,rfl,⟨hRz,hSz,hQz,(show x.n≤1000000000 by omega),fun s hs=>by have:=same_sn hSc hxb.cs.shifts hsb hxr s hs;omega,(show x.sn≤1000000000 by omega),(show x.m≤1000000000 by omega),fun p hp=>HQN.out p (List.mem_of_mem_take hp)⟩,hsb,?_⟩
    show (L7.take x.m).map Q.bare=x.r.map Q.bare
    rw [List.map_take,HLB.out,List.map_append,List.take_left' (by rw [List.length_map,HRN.out])]
namespace K
theorem asc33_at {n p:Int} {v:List Int} {k:Nat} {i:Int} (h:v[k]? = some i):asc33 n p (v.drop k)=(!decide (i≤p) && (!decide (n≤i) && asc33 n i (v.drop (k + 1)))):=by
 obtain ⟨hk,e⟩:=List.getElem?_eq_some_iff.1 h
 rw [List.drop_eq_getElem_cons hk,e,asc33]
end K
set_option maxRecDepth 100000 in
set_option maxHeartbeats 32000000 in
theorem pcheck33_any (x:Cs) (q:Q) (a:AV) (w:World) (hx:Ok33 w x q) (ha:AvAt w a) (hao:AvOk a) :
  Calls Tryz.prog 37 #[.agg #[.int .i64 x.nd,.slice x.A x.n x.c,.slice x.SA x.sn x.sc,.slice x.B x.m x.d],.agg #[.int .i64 q.node,.int .i64 q.room,.int .i64 q.kilos,.int .i64 q.service,.int .i64 q.frm,.int .i64 q.by_,.slice q.A q.n q.c],.agg #[.bool a.acc,.slice a.PA a.pn a.pc,.slice a.VA a.vn a.vc,.slice a.RA a.rn a.rc]] w fun e w'=>e=.returned (.bool (K.check33 x.nd x.l x.ss x.r q a.an))∧Below w.heap.size w w':=by
 obtain ⟨w0,hw0⟩:∃ w0:World,w0=w.alloc (.cells #[.int .i64 x.nd,.slice x.A x.n x.c,.slice x.SA x.sn x.sc,.slice x.B x.m x.d] 44):=⟨_,rfl⟩
 have z0:w0.heap.size=w.heap.size + 1:=by rw [hw0];exact World.size_alloc _ _
 have b0:Below w.heap.size w w0:=by rw [hw0];exact (Below.refl _ _).alloc (Nat.le_refl _) _
 have hN0:BkBlk w0 w.heap.size x:=by rw [hw0];exact BkBlk.new _ _
 obtain ⟨w1,hw1⟩:∃ w1:World,w1=w0.alloc (.cells #[.int .i64 q.node,.int .i64 q.room,.int .i64 q.kilos,.int .i64 q.service,.int .i64 q.frm,.int .i64 q.by_,.slice q.A q.n q.c] 47):=⟨_,rfl⟩
 have z1:w1.heap.size=w.heap.size + 1 + 1:=by rw [hw1,World.size_alloc,z0]
 have b1:Below w0.heap.size w0 w1:=by rw [hw1];exact (Below.refl _ _).alloc (Nat.le_refl _) _
 have hB1:QBlk w1 (w.heap.size + 1) q:=by rw [hw1,←z0];exact QBlk.new _ _
 obtain ⟨w2,hw2⟩:∃ w2:World,w2=w1.alloc (.cells #[.bool a.acc,.slice a.PA a.pn a.pc,.slice a.VA a.vn a.vc,.slice a.RA a.rn a.rc] 50):=⟨_,rfl⟩
 have b2:Below w1.heap.size w1 w2:=by rw [hw2];exact (Below.refl _ _).alloc (Nat.le_refl _) _
 have hA2:w2.heap[w.heap.size + 1 + 1]? = some (.cells #[.bool a.acc,.slice a.PA a.pn a.pc,.slice a.VA a.vn a.vc,.slice a.RA a.rn a.rc] 50 (0,0)):=by rw [hw2,←z1];exact heap_alloc_new _ _
 have b12:=bel b1 b2
 have hb2:=bel b0 b12
 have HMK:=Lib.hid (show ∀ w',Below w2.heap.size w2 w'→(fun w':World=>w'.cell? ⟨w.heap.size,0,none⟩=some (.int .i64 x.nd)∧w'.cell? ⟨w.heap.size,1,none⟩=some (.slice x.A x.n x.c)∧w'.cell? ⟨w.heap.size,2,none⟩=some (.slice x.SA x.sn x.sc)∧w'.cell? ⟨w.heap.size,3,none⟩=some (.slice x.B x.m x.d)∧w'.cell? ⟨w.heap.size + 1,0,none⟩=some (.int .i64 q.node)∧w'.cell? ⟨w.heap.size + 1,1,none⟩=some (.int .i64 q.room)∧w'.cell? ⟨w.heap.size + 1,2,none⟩=some (.int .i64 q.kilos)∧w'.cell? ⟨w.heap.size + 1,3,none⟩=some (.int .i64 q.service)∧w'.cell? ⟨w.heap.size + 1,4,none⟩=some (.int .i64 q.frm)∧w'.cell? ⟨w.heap.size + 1,5,none⟩=some (.int .i64 q.by_)∧w'.cell? ⟨w.heap.size + 1,6,none⟩=some (.slice q.A q.n q.c)∧w'.cell? ⟨w.heap.size + 1 + 1,0,none⟩=some (.bool a.acc)∧w'.cell? ⟨w.heap.size + 1 + 1,1,none⟩=some (.slice a.PA a.pn a.pc)∧w'.cell? ⟨w.heap.size + 1 + 1,2,none⟩=some (.slice a.VA a.vn a.vc)∧w'.cell? ⟨w.heap.size + 1 + 1,3,none⟩=some (.slice a.RA a.rn a.rc)) w' from fun w' h=>by
  obtain ⟨a0,a1,a2,a3,a4⟩:=BQ.mk' ((hN0.below b12).below h) ((hB1.below b2).below h)
  exact ⟨a0,a1,a2,a3,a4.1,a4.2.1,a4.2.2.1,a4.2.2.2.1,a4.2.2.2.2.1,a4.2.2.2.2.2.1,a4.2.2.2.2.2.2,blk_cell (blk_below h hA2) 0 _ rfl,blk_cell (blk_below h hA2) 1 _ rfl,blk_cell (blk_below h hA2) 2 _ rfl,blk_cell (blk_below h hA2) 3 _ rfl⟩)
 have hx2:=hx.below hb2
 have ha2:=ha.below hb2
 have HRN:=Lib.hid hx.cs.reqs.1
 have HVN:=Lib.hid ha.v.1
 have HPN:=Lib.hid ha.t.1.1
 have HBN:=Lib.hid ha.b.1.1
 have hm9:=hx.m
 have hv9:=hao.fv
 have hb9:=hao.fb.1
 have CF:=fits94_any x.nd x.A x.n x.c q w2 hx2.req (by have:=hx.q;omega)
 obtain ⟨z,hz⟩:∃ z,z=K.fits33 x.nd q:=⟨_,rfl⟩
 rw [←hz] at CF
 have HZ:=Lib.hid hz
 obtain ⟨R,hR⟩:∃ R,R=K.check33 x.nd x.l x.ss x.r q a.an:=⟨_,rfl⟩
 have HR:=Lib.hid hR
 obtain ⟨p0,p1,p2,p3,c0,c1,c2,c3,c4,c5,c6,r0,r1,r2,r3⟩:=HMK.out _ (Below.refl _ _)
 rw [←hR]
 clear hz hR
 go_enter Tryz.func37,Tryz.ntmps37
 rw [hw2,hw1,hw0] at p0 p1 p2 p3 c0 c1 c2 c3 c4 c5 c6
 go_wp2_with fail
 rw [←hw0,←hw1,←hw2]
 clear hw0 hw1 hw2 z0 z1 b0 b1 b2 b12 hN0 hB1 hA2
 clear p0 p1 p2 p3 c0 c1 c2 c3 c4 c5 c6 r0 r1 r2 r3
 refine CF.mono ?_
 rintro e w3 ⟨rfl,b3⟩
 clear CF
 have hb3:=bel hb2 b3
 cases z
 ·have HX:=Lib.hid (show R=false by rw [HR.out];unfold K.check33;rw [if_pos (.inl HZ.out.symm)])
  go_wp2_with fail
  go_ret
  exact ⟨by rw [HX.out];rfl,hb3⟩
 by_cases h6:6≤x.m
 ·have HX:=Lib.hid (show R=false by rw [HR.out];unfold K.check33;rw [if_pos (.inr (by rw [←HRN.out];exact h6))])
  have d1:decide ((6:Int)≤(x.m:Int))=true:=by simp;omega
  have d2:decide (6≤x.m)=true:=by simp;omega
  obtain ⟨p0,p1,p2,p3,c0,c1,c2,c3,c4,c5,c6,r0,r1,r2,r3⟩:=HMK.out _ b3
  go_wp2_with fail
  go_ret
  exact ⟨by rw [HX.out];rfl,hb3⟩
 have d1:decide ((6:Int)≤(x.m:Int))=false:=by simp;omega
 have d2:decide (6≤x.m)=false:=by simp;omega
 have HNE:=Lib.hid (show ¬ (K.fits33 x.nd q=false∨6≤x.r.length) from fun h=>h.elim (fun h=>by rw [←HZ.out] at h;cases h) (fun h=>h6 (by rw [HRN.out];exact h)))
 have hx3:=hx2.below b3
 cases hac:a.acc
 rotate_left
 ·rw [hac] at HMK
  have HRT:=Lib.hid (show R=((a.v.length + (a.bl.map BV.pr).length == 0) && (K.checks x.nd x.l x.ss (x.r ++ [q]) (a.ts.map TV.pr) == 0)) by
   rw [HR.out]
   unfold K.check33 AV.an
   rw [if_neg HNE.out,hac,if_pos rfl])
  clear hac
  have hbd:Below w3.heap.size w3 w3.drew:=(Below.refl _ _).drew
  have b3d:=bel b3 hbd
  have S0:=HMK.out _ b3
  have S0d:=HMK.out _ b3d
  have hx3d:=hx2.below b3d
  have HIO:=Lib.hid (show ∀ i ∈ K.iota x.m,0≤i∧i < (x.r.length:Int) from fun i hi=>by have:=K.mem_iota.1 hi;have:=HRN.out;omega)
  obtain ⟨p0,p1,p2,p3,c0,c1,c2,c3,c4,c5,c6,r0,r1,r2,r3⟩:=HMK.out _ b3
  go_upto_region 4 with fail
  clear d1 d2
  clear p0 p1 p2 p3 c0 c1 c2 c3 c4 c5 c6 r0 r1 r2 r3
  go_region_held3 (fun w':World=>w'.cell? ⟨w.heap.size,0,none⟩=some (.int .i64 x.nd)∧w'.cell? ⟨w.heap.size,1,none⟩=some (.slice x.A x.n x.c)∧w'.cell? ⟨w.heap.size,2,none⟩=some (.slice x.SA x.sn x.sc)∧w'.cell? ⟨w.heap.size,3,none⟩=some (.slice x.B x.m x.d)∧w'.cell? ⟨w.heap.size + 1,0,none⟩=some (.int .i64 q.node)∧w'.cell? ⟨w.heap.size + 1,1,none⟩=some (.int .i64 q.room)∧w'.cell? ⟨w.heap.size + 1,2,none⟩=some (.int .i64 q.kilos)∧w'.cell? ⟨w.heap.size + 1,3,none⟩=some (.int .i64 q.service)∧w'.cell? ⟨w.heap.size + 1,4,none⟩=some (.int .i64 q.frm)∧w'.cell? ⟨w.heap.size + 1,5,none⟩=some (.int .i64 q.by_)∧w'.cell? ⟨w.heap.size + 1,6,none⟩=some (.slice q.A q.n q.c)∧w'.cell? ⟨w.heap.size + 1 + 1,0,none⟩=some (.bool true)∧w'.cell? ⟨w.heap.size + 1 + 1,1,none⟩=some (.slice a.PA a.pn a.pc)∧w'.cell? ⟨w.heap.size + 1 + 1,2,none⟩=some (.slice a.VA a.vn a.vc)∧w'.cell? ⟨w.heap.size + 1 + 1,3,none⟩=some (.slice a.RA a.rn a.rc))
   (first | with_reducible exact S2 | with_reducible exact S1 | with_reducible exact S0d | with_reducible exact S0 | fail)
   (first
    | (go_at_call 96;refine (numbers_any x.m _ (by omega)).mono ?_;rintro e w6 ⟨⟨V6,k6,rfl,hI6⟩,b6⟩;have b6r:=bel b3d b6;have S1:=HMK.out _ b6r)
    | (go_at_call 95;refine (with_any x.B x.m x.d x.r V6 x.m k6 (K.iota x.m) q _ (hx3d.below b6).cs.reqs hI6 HIO.out (hx3d.below b6).req hx.qs hx.q (by omega)).mono ?_;rintro e w7 ⟨⟨A7,k7,L7,rfl,hL7,hLb,hk7,-,-⟩,b7⟩;have b7r:=bel b6r b7;have S2:=HMK.out _ b7r)
    | fail)
  have HLB:=Lib.hid (show L7.map Q.bare=(x.r ++ [q]).map Q.bare by rw [hLb,HRN.out,K.pick_iota])
  have hcs7:CsAt w7 (x.with_ A7 (x.m + 1) k7 L7):=hx3d.case (bel b6 b7) hL7 hLb (by omega)
  have hb7:=bel hb2 b7r
  have kW:IntKind.i64.wrap ((a.vn:Int) + (a.rn:Int))=((a.vn + a.rn:Nat):Int):=by rw [IntWalk.i64_in _ (by omega)];omega
  by_cases hz0:a.vn + a.rn=0
  rotate_left
  ·have HX:=Lib.hid (show R=false by
    rw [HRT.out,List.length_map,←HVN.out,←HBN.out]
    rw [show (a.vn + a.rn == 0)=false by simp;omega]
    rfl)
   have e1:(((a.vn + a.rn:Nat):Int) == 0)=false:=by simp;omega
   have e2:decide (((a.vn + a.rn:Nat):Int)=0)=false:=by simp;omega
   have e3:decide (a.vn + a.rn=0)=false:=by simp;omega
   clear S0 S0d S1 S2
   obtain ⟨p0,p1,p2,p3,c0,c1,c2,c3,c4,c5,c6,r0,r1,r2,r3⟩:=HMK.out _ b7r
   go_wp2_with fail
   go_ret
   exact ⟨by rw [HX.out];rfl,hb7⟩
  have e1:(((a.vn + a.rn:Nat):Int) == 0)=true:=by simp;omega
  have e2:decide (((a.vn + a.rn:Nat):Int)=0)=true:=by simp;omega
  have e3:decide (a.vn + a.rn=0)=true:=by simp;omega
  obtain ⟨c9,hc9⟩:∃ c9,c9=K.checks x.nd x.l x.ss (x.r ++ [q]) (a.ts.map TV.pr):=⟨_,rfl⟩
  have HX:=Lib.hid (show R=(c9 == 0) by
   rw [HRT.out,List.length_map,←HVN.out,←HBN.out,show (a.vn + a.rn == 0)=true by simp;omega,hc9]
   rfl)
  have CC:=checks32_any (x.with_ A7 (x.m + 1) k7 L7) a.PA a.pn a.pc a.ts w7 hcs7 ((ha2.below b7r).t) hao.ft
  rw [show K.checks (x.with_ A7 (x.m + 1) k7 L7).nd (x.with_ A7 (x.m + 1) k7 L7).l (x.with_ A7 (x.m + 1) k7 L7).ss (x.with_ A7 (x.m + 1) k7 L7).r (a.ts.map TV.pr)=c9 by rw [hc9];exact K.checks_same HLB.out rfl _] at CC
  clear S0 S0d S1 S2 hc9
  obtain ⟨p0,p1,p2,p3,c0,c1,c2,c3,c4,c5,c6,r0,r1,r2,r3⟩:=HMK.out _ b7r
  go_wp2_with fail
  refine CC.mono ?_
  rintro e w8 ⟨rfl,b8⟩
  go_wp2_with fail
  go_ret
  exact ⟨by rw [HX.out];rfl,bel hb7 b8⟩
 ·rw [hac] at HMK
  have HRT:=Lib.hid (show R=(K.asc33 x.r.length (-1) a.v && (((a.ts.map TV.pr).length == 0) && K.refutes x.nd x.l x.ss (K.pick33 x.r a.v q) (a.bl.map BV.pr))) by
   rw [HR.out]
   unfold K.check33 AV.an
   rw [if_neg HNE.out,hac,if_neg (by simp)])
  clear hac
  obtain ⟨p0,p1,p2,p3,c0,c1,c2,c3,c4,c5,c6,r0,r1,r2,r3⟩:=HMK.out _ b3
  go_wp2_with fail
  clear d1 d2
  clear p0 p1 p2 p3 c0 c1 c2 c3 c4 c5 c6 r0 r1 r2 r3
  go_loopw [8,54] (fun v8 v54 wr=>∃ (k:Nat) (p:Int),v8=.int .i64 p∧v54=.int .i64 k∧k≤a.vn∧Hid (K.asc33 x.r.length (-1) a.v=K.asc33 x.r.length p (a.v.drop k))∧Below w3.heap.size w3 wr) (fun _ v54 _=>a.vn - (intOf v54).toNat)
  case atStart=>exact ⟨0,-1,rfl,rfl,Nat.zero_le _,rfl,Below.refl _ _⟩
  case round =>
   obtain ⟨k,p,rfl,rfl,hk,hsc,hbr⟩:=hrel
   have b3r:=bel b3 hbr
   have hbw:=bel hb3 hbr
   by_cases hlt:k < a.vn
   ·obtain ⟨ad,i,hVA,hi,ci⟩:=(ha2.below b3r).v.at_ hlt
    have hst:=hsc.out.trans (K.asc33_at hi)
    have HST:=Lib.hid hst
    have k0:(0:Int)≤(k:Int):=by omega
    have k1:(k:Int) < (a.vn:Int):=by omega
    clear hst hsc hi
    obtain ⟨p0,p1,p2,p3,c0,c1,c2,c3,c4,c5,c6,r0,r1,r2,r3⟩:=HMK.out _ b3r
    by_cases hip:i≤p
    ·have e1:decide (i≤p)=true:=by simp [hip]
     have HX:=Lib.hid (show R=false by rw [HRT.out,HST.out,e1];rfl)
     rw [hVA]
     go_wp2_with fail
     go_ret
     exact ⟨by rw [HX.out];rfl,hbw⟩
    have e1:decide (i≤p)=false:=by simp;omega
    by_cases hin:(x.m:Int)≤i
    ·have e2:decide ((x.m:Int)≤i)=true:=by simp [hin]
     have HX:=Lib.hid (show R=false by rw [HRT.out,HST.out,e1,←HRN.out,e2];rfl)
     rw [hVA]
     go_wp2_with fail
     go_ret
     exact ⟨by rw [HX.out];rfl,hbw⟩
    have e2:decide ((x.m:Int)≤i)=false:=by simp;omega
    have HN:=Lib.hid (show K.asc33 x.r.length (-1) a.v=K.asc33 x.r.length i (a.v.drop (k + 1)) by rw [HST.out,e1,←HRN.out,e2];rfl)
    rw [hVA]
    go_wp2_with fail
    go_roundw
    case rel=>(go_light;exact ⟨k + 1,i,rfl,by go_num,hlt,HN.out,hbr⟩)
    case measure=>(go_light;simp [intOf];omega)
   ·have HAS:=Lib.hid (show K.asc33 x.r.length (-1) a.v=true by rw [hsc.out,List.drop_of_length_le (by have:=HVN.out;omega)];rfl)
    have HVI:=Lib.hid (show ∀ i ∈ a.v,0≤i∧i < (x.r.length:Int) from fun i hi=>by have:=(K.asc33_iff.1 HAS.out).2 i hi;omega)
    have hd1:decide ((k:Int) < (a.vn:Int))=false:=by simp;omega
    have hd2:decide (k < a.vn)=false:=by simp;omega
    clear hsc
    by_cases hp0:a.pn=0
    rotate_left
    ·have HX:=Lib.hid (show R=false by
      rw [HRT.out,HAS.out,List.length_map,←HPN.out,show (a.pn == 0)=false by simp;omega]
      rfl)
     have e1:((a.pn:Int) == 0)=false:=by simp;omega
     have e2:decide ((a.pn:Int)=0)=false:=by simp;omega
     have e3:decide (a.pn=0)=false:=by simp;omega
     obtain ⟨q0,q1,q2,q3,d0,d1,d2,d3,d4,d5,d6,s0,s1,s2,s3⟩:=HMK.out _ b3r
     have F1:=Beh.cell s1
     go_upto_region 14 with fail
     refine reg_beh (by kernel_rfl) (by kernel_rfl) ?_
     repeat (go_big_quiet_step (fail))
     refine wpQuiet_nil ?_
     rintro w5 ⟨⟨_,b45⟩,rfl⟩
     go_wp2_with fail
     go_ret
     exact ⟨by rw [HX.out];rfl,bel hbw b45⟩
    have e1:((a.pn:Int) == 0)=true:=by simp [hp0]
    have e2:decide ((a.pn:Int)=0)=true:=by simp [hp0]
    have e3:decide (a.pn=0)=true:=by simp [hp0]
    obtain ⟨rz,hrz⟩:∃ rz,rz=K.refutes x.nd x.l x.ss (K.pick33 x.r a.v q) (a.bl.map BV.pr):=⟨_,rfl⟩
    have HX:=Lib.hid (show R=rz by
     rw [HRT.out,HAS.out,List.length_map,←HPN.out,show (a.pn == 0)=true by simp [hp0],hrz]
     rfl)
    have HRZ:=Lib.hid (show ∀ L:List Q,L.map Q.bare=(K.pick33 x.r a.v q).map Q.bare→K.refutes x.nd x.l x.ss L (a.bl.map BV.pr)=rz from fun L e=>by rw [hrz];exact K.refutes_same e rfl _)
    have hbd:Below wr.heap.size wr wr.drew:=(Below.refl _ _).drew
    have brd:=bel b3r hbd
    have S0:=HMK.out _ b3r
    have S0d:=HMK.out _ brd
    have hxd:=hx2.below brd
    have had:=ha2.below brd
    clear hrz
    go_upto_region 14 with fail
    go_region_held3 (fun w':World=>w'.cell? ⟨w.heap.size,0,none⟩=some (.int .i64 x.nd)∧w'.cell? ⟨w.heap.size,1,none⟩=some (.slice x.A x.n x.c)∧w'.cell? ⟨w.heap.size,2,none⟩=some (.slice x.SA x.sn x.sc)∧w'.cell? ⟨w.heap.size,3,none⟩=some (.slice x.B x.m x.d)∧w'.cell? ⟨w.heap.size + 1,0,none⟩=some (.int .i64 q.node)∧w'.cell? ⟨w.heap.size + 1,1,none⟩=some (.int .i64 q.room)∧w'.cell? ⟨w.heap.size + 1,2,none⟩=some (.int .i64 q.kilos)∧w'.cell? ⟨w.heap.size + 1,3,none⟩=some (.int .i64 q.service)∧w'.cell? ⟨w.heap.size + 1,4,none⟩=some (.int .i64 q.frm)∧w'.cell? ⟨w.heap.size + 1,5,none⟩=some (.int .i64 q.by_)∧w'.cell? ⟨w.heap.size + 1,6,none⟩=some (.slice q.A q.n q.c)∧w'.cell? ⟨w.heap.size + 1 + 1,0,none⟩=some (.bool false)∧w'.cell? ⟨w.heap.size + 1 + 1,1,none⟩=some (.slice a.PA a.pn a.pc)∧w'.cell? ⟨w.heap.size + 1 + 1,2,none⟩=some (.slice a.VA a.vn a.vc)∧w'.cell? ⟨w.heap.size + 1 + 1,3,none⟩=some (.slice a.RA a.rn a.rc))
     (first | with_reducible exact S2 | with_reducible exact S1 | with_reducible exact S0d | with_reducible exact S0 | fail)
     (first
      | (go_at_call 95;refine (with_any x.B x.m x.d x.r a.VA a.vn a.vc a.v q _ hxd.cs.reqs had.v HVI.out hxd.req hx.qs hx.q hv9).mono ?_;rintro e w7 ⟨⟨A7,k7,L7,rfl,hL7,hLb,hk7,-,-⟩,b7⟩;have b7r:=bel brd b7;have S1:=HMK.out _ b7r)
      | (go_at_call 28;refine (refutes32_any (x.with_ A7 (a.vn + 1) k7 L7) a.RA a.rn a.rc a.bl _ (hxd.case b7 hL7 hLb (by omega)) (ha2.below b7r).b hao.fb).mono ?_;rintro e w8 ⟨rfl,b8⟩;have b8r:=bel b7r b8;have S2:=HMK.out _ b8r)
      | fail)
    have hz:K.refutes (x.with_ A7 (a.vn + 1) k7 L7).nd (x.with_ A7 (a.vn + 1) k7 L7).l (x.with_ A7 (a.vn + 1) k7 L7).ss (x.with_ A7 (a.vn + 1) k7 L7).r (a.bl.map BV.pr)=rz:=HRZ.out L7 hLb
    rw [hz]
    clear S0 S0d S1 S2 hz
    go_wp2_with fail
    go_ret
    exact ⟨by rw [HX.out];rfl,bel hb2 b8r⟩
theorem reqs_snoc {w:World} {A:Option Addr} {m:Nat} {r:List Q} {q:Q} (h:Rd w 7 A (m + 1) (r.flatMap Q.cells ++ q.cells)) (hm:m=r.length) (hr:∀ p ∈ r,Wins w p.A p.n p.l) (hq:Wins w q.A q.n q.l):Reqs w A (m + 1) (r ++ [q]) :=
 ⟨by rw [List.length_append,hm];rfl,by rw [reqCells_flat,List.flatMap_append,List.flatMap_singleton];exact h,fun p hp=>(List.mem_append.1 hp).elim (hr p) (fun hp=>by rw [List.mem_singleton.1 hp];exact hq)⟩
def Stays (B:Nat) (w w':World):Prop:=∀ g o,B≤g→w.heap[g]? = some o→w'.heap[g]? = some o
theorem Rd.stays {w w':World} {size n B:Nat} {A:Option Addr} {xs:List Value} (h:Rd w size A n xs) (hs:Stays B w w') (hA:0 < n→∀ ad,A=some ad→B≤ad.block):Rd w' size A n xs :=
 ⟨h.1,fun hn=>by
  obtain ⟨ad,e,hc⟩:=h.2 hn
  refine ⟨ad,e,fun j u hu=>?_⟩
  have h1:=hc j u hu
  have hlt:=cell_lt h1
  obtain ⟨o,ho⟩:∃ o,w.heap[(ad.add j).block]? = some o:=⟨_,Array.getElem?_eq_getElem hlt⟩
  refine (World.cell?_of_block ?_).trans h1
  rw [ho]
  exact hs _ _ (by rw [add_block];exact hA hn ad e) ho⟩
theorem Lst.stays {α:Type} {f:α→List Value} {s n B:Nat} {w w':World} {A:Option Addr} {l:List α} (h:Lst f s w A n l) (hs:Stays B w w') (hA:0 < n→∀ ad,A=some ad→B≤ad.block):Lst f s w' A n l:=⟨h.1,Rd.stays h.2 hs hA⟩
theorem Ints.stays {w w':World} {n B:Nat} {A:Option Addr} {l:List Int} (h:Ints w A n l) (hs:Stays B w w') (hA:0 < n→∀ ad,A=some ad→B≤ad.block):Ints w' A n l:=⟨h.1,Rd.stays h.2 hs hA⟩
theorem AvAt.stays {w w':World} {a:AV} {B:Nat} (h:AvAt w a) (hn:AvNew B a) (hs:Stays B w w'):AvAt w' a :=
 ⟨⟨Lst.stays h.t.1 hs fun _=>hn.p,fun y hy=>⟨Ints.stays (h.t.2 y hy).1 hs (hn.t y hy).1,Ints.stays (h.t.2 y hy).2 hs (hn.t y hy).2⟩⟩,Ints.stays h.v hs fun _=>hn.v,⟨Lst.stays h.b.1 hs fun _=>hn.r,fun y hy=>⟨Ints.stays (h.b.2 y hy).1 hs (hn.b y hy).1,Lst.stays (h.b.2 y hy).2 hs (hn.b y hy).2⟩⟩⟩
theorem CsAt.stays {w w':World} {x:Cs} {B:Nat} (h:CsAt w x) (hn:BkNew B x) (hs:Stays B w w'):CsAt w' x :=
 ⟨Lst.stays h.net hs hn.n,⟨Lst.stays h.shifts.1 hs fun _=>hn.s,fun s hm=>Ints.stays (h.shifts.2 s hm) hs (hn.r s hm)⟩,⟨h.reqs.1,Rd.stays h.reqs.2.1 hs fun _=>hn.q,fun q hq=>⟨(h.reqs.2.2 q hq).1,Rd.stays (h.reqs.2.2 q hq).2 hs (hn.w q hq)⟩⟩,h.b1,h.b2,h.b3,h.b4,h.b5⟩
theorem Stays.below {w w':World} (B:Nat) (h:Below w.heap.size w w'):Stays B w w':=fun _ _ _ e=>blk_below h e
theorem Stays.trans {a b c:World} {B:Nat} (h:Stays B a b) (h2:Stays B b c):Stays B a c:=fun g o hg e=>h2 g o hg (h g o hg e)
theorem bel_alloc {w w':World} (h:Below w.heap.size w w') (o:Obj):Below w.heap.size w (w'.alloc o):=h.alloc h.size o
theorem bel_set4 {B b:Nat} {w w':World} (h:Below B w w') (hb:B≤b) (u0 u1 u2 u3:Value):Below B w ((((w'.setCell ⟨b,0,none⟩ u0).setCell ⟨b,1,none⟩ u1).setCell ⟨b,2,none⟩ u2).setCell ⟨b,3,none⟩ u3) :=
 (((h.setCell hb u0).setCell hb u1).setCell hb u2).setCell hb u3
theorem blk_other4 {w:World} {gA gB:Nat} {csA csB:Array Value} (hA:w.heap[gA]? = some (.cells csA 44 (0,0))) (hB:w.heap[gB]? = some (.cells csB 50 (0,0))) (u0 u1 u2 u3:Value) :
  ((((w.setCell ⟨gA,0,none⟩ u0).setCell ⟨gA,1,none⟩ u1).setCell ⟨gA,2,none⟩ u2).setCell ⟨gA,3,none⟩ u3).heap[gB]? = some (.cells csB 50 (0,0)):=by
 have hne:gB ≠ gA:=fun e=>by
  rw [e,hA] at hB
  simp at hB
 have h:=Sets.other [(⟨gA,0,none⟩,u0),(⟨gA,1,none⟩,u1),(⟨gA,2,none⟩,u2),(⟨gA,3,none⟩,u3)] w gB (fun p hp=>by rw [set4_in hp];exact hne.symm)
 simp only [Sets] at h
 rw [h]
 exact hB
structure ExB (w:World) (L:List Int) (x:Cs):Prop where
 nd:x.nd=2
 n:x.n=2
 sn:x.sn=1
 m:x.m=L.length
 l:x.l=K.exL32
 at_:CsAt w x
 ss:x.ss.map S.bare=[K.exS32 none 0].map S.bare
 r:x.r.map Q.bare=(L.map K.exQ32).map Q.bare
 s9:∀ s ∈ x.ss,s.n≤1000000
theorem ExB.below {w w':World} {L:List Int} {x:Cs} (h:ExB w L x) (hb:Below w.heap.size w w'):ExB w' L x:=⟨h.nd,h.n,h.sn,h.m,h.l,h.at_.below hb,h.ss,h.r,h.s9⟩
theorem ExB.stays {w w':World} {L:List Int} {x:Cs} {B:Nat} (h:ExB w L x) (hn:BkNew B x) (hs:Stays B w w'):ExB w' L x:=⟨h.nd,h.n,h.sn,h.m,h.l,h.at_.stays hn hs,h.ss,h.r,h.s9⟩
structure Told (w:World) (L L':List Int) (k:Int) (acc:Bool) (blk:List Int) (x':Cs) (a:AV):Prop where
 av:AvAt w a
 ok:AvOk a
 acc:a.acc=acc
 v:a.v=blk
 vn:a.vn=blk.length
 an:a.an=(K.ask33 2 K.exL32 [K.exS32 none 0] (L.map K.exQ32) (K.exQ32 k)).2.1
 bk:ExB w L' x'
theorem Told.stays {w w':World} {L L':List Int} {k:Int} {acc:Bool} {blk:List Int} {x:Cs} {a:AV} {B:Nat} (h:Told w L L' k acc blk x a) (hn:AvNew B a) (hb:BkNew B x) (hs:Stays B w w'):Told w' L L' k acc blk x a:=⟨h.av.stays hn hs,h.ok,h.acc,h.v,h.vn,h.an,h.bk.stays hb hs⟩
theorem Told.below {w w':World} {L L':List Int} {k:Int} {acc:Bool} {blk:List Int} {x:Cs} {a:AV} (h:Told w L L' k acc blk x a) (hb:Below w.heap.size w w'):Told w' L L' k acc blk x a:=⟨h.av.below hb,h.ok,h.acc,h.v,h.vn,h.an,h.bk.below hb⟩
theorem BkNew.mono {B B':Nat} {x:Cs} (h:BkNew B x) (hb:B'≤B):BkNew B' x:=⟨fun h0 ad e=>Nat.le_trans hb (h.n h0 ad e),fun ad e=>Nat.le_trans hb (h.s ad e),fun s hs h0 ad e=>Nat.le_trans hb (h.r s hs h0 ad e),fun ad e=>Nat.le_trans hb (h.q ad e),h.w.mono hb⟩
theorem blk_lt {w:World} {g:Nat} {o:Obj} (h:w.heap[g]? = some o):g < w.heap.size:=by
 rcases Nat.lt_or_ge g w.heap.size with h1 | h1
 ·exact h1
 ·rw [Array.getElem?_eq_none h1] at h;cases h
theorem blk_lt2 {w w':World} {g:Nat} {o:Obj} (_:Below w.heap.size w w') (h:w.heap[g]? = some o):g < w.heap.size:=blk_lt h
abbrev St4 (w:World) (b:Nat) (u0 u1 u2 u3:Value):World:=(((w.setCell ⟨b,0,none⟩ u0).setCell ⟨b,1,none⟩ u1).setCell ⟨b,2,none⟩ u2).setCell ⟨b,3,none⟩ u3
theorem St4.sets (w:World) (b:Nat) (u0 u1 u2 u3:Value):St4 w b u0 u1 u2 u3=Sets w [(⟨b,0,none⟩,u0),(⟨b,1,none⟩,u1),(⟨b,2,none⟩,u2),(⟨b,3,none⟩,u3)]:=rfl
theorem St4.at_ {w:World} {b:Nat} {x0 x1 x2 x3:Value} {t:TypeId} (h:w.heap[b]? = some (.cells #[x0,x1,x2,x3] t (0,0))) (u0 u1 u2 u3:Value):(St4 w b u0 u1 u2 u3).heap[b]? = some (.cells #[u0,u1,u2,u3] t (0,0)):=by
 rw [St4.sets]
 exact set4_blk h _ _ _ _
theorem St4.other {w:World} {b g:Nat} (h:g ≠ b) (u0 u1 u2 u3:Value):(St4 w b u0 u1 u2 u3).heap[g]? = w.heap[g]?:=by
 rw [St4.sets]
 exact Sets.other _ w g (fun p hp=>by rw [set4_in hp];exact h.symm)
theorem St4.stays {w w':World} {B b:Nat} (h:Stays B w w') (hb:b < B∨w.heap.size≤b) (u0 u1 u2 u3:Value):Stays B w (St4 w' b u0 u1 u2 u3):=fun g o hg e=>by
 have:=blk_lt e
 rw [St4.other (by omega)]
 exact h g o hg e
theorem St4.below {B b:Nat} {w w':World} (h:Below B w w') (hb:B≤b) (u0 u1 u2 u3:Value):Below B w (St4 w' b u0 u1 u2 u3):=bel_set4 h hb u0 u1 u2 u3
structure Done (W0:World) (L L':List Int) (k:Int) (acc:Bool) (blk:List Int) (n' bn:Nat) (gA gB:Nat) (x':Cs) (a:AV) (w:World):Prop where
 hA:w.heap[gA]? = some (.cells #[.int .i64 2,.slice x'.A 2 x'.c,.slice x'.SA 1 x'.sc,.slice x'.B n' x'.d] 44 (0,0))
 hB:w.heap[gB]? = some (.cells #[.bool acc,.slice a.PA a.pn a.pc,.slice a.VA bn a.vc,.slice a.RA a.rn a.rc] 50 (0,0))
 told:Told w L L' k acc blk x' a
 bel:Below W0.heap.size W0 w
 lA:W0.heap.size≤gA
 lB:W0.heap.size≤gB
 nx:BkNew W0.heap.size x'
end Go.Proofs.YtippdjmpkafifaaGreat
