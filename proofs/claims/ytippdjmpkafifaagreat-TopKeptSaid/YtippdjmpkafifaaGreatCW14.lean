import Derived.Test.YtippdjmpkafifaaGreatCW5
import Derived.Lib.LazyBuf
import Derived.Test.YtippdjmpkafifaaGreatCW13
import Derived.Test.YtippdjmpkafifaaGreatCW7
import Derived.Deep.RegionHeld3
import Derived.Deep.RegionWith
namespace Go.Proofs.YtippdjmpkafifaaGreat
open Go.RowKit
theorem flat_one {α:Type} (f:α→List Value) (h:∀ x,∀ u ∈ f x,u.oneCell'=true) (l:List α):∀ u ∈ l.flatMap f,u.oneCell'=true:=fun u hu=>by
 obtain ⟨x,-,h2⟩:=List.mem_flatMap.1 hu
 exact h x u h2
theorem road_one (x:Ro):∀ u ∈ roadCells x,u.oneCell'=true:=by
 intro u hu
 simp only [roadCells,List.mem_cons,List.not_mem_nil,or_false] at hu
 rcases hu with rfl | rfl | rfl | rfl <;> rfl
theorem req_one (x:Q):∀ u ∈ Q.cells x,u.oneCell'=true:=by
 intro u hu
 simp only [Q.cells,List.mem_cons,List.not_mem_nil,or_false] at hu
 rcases hu with rfl | rfl | rfl | rfl | rfl | rfl | rfl <;> rfl
theorem eql22 (a:Option Addr) (l c:Nat) (w:World):(binOp .eql 22 (.slice a l c) (.slice none 0 0)).run Tryz.prog w=.ok (.bool a.isNone) w:=Go.run_eql_slice_nil w 22 134 a l c Tryz.underlying22
theorem clone149_info:(Tryz.prog.info? 134).map (fun i=>(i.zero,i.size,i.bytes))=some (some (.agg #[.int .i64 0,.int .i64 0,.int .i64 0,.int .i64 0]),4,32):=by kernel_rfl
set_option maxHeartbeats 2000000 in
theorem clone149 (A:Option Addr) (n c:Nat) (xs:List Value) (w:World) (hl:Rd w 4 A n xs) (h1:∀ u ∈ xs,u.oneCell'=true) (hn:n≤1000000) :
  Calls Tryz.prog 149 #[.slice A n c] w fun e w'=>(∃ v,e=.returned v∧w'.ownsRow w.heap.size 134 4 v n xs)∧Below w.heap.size w w':=by
 obtain ⟨i0,hi,hz0,hz1,hz2⟩:=info_parts clone149_info
 have heq:=eql22
 cases A with
 | none =>
  go_enter Tryz.func149,Tryz.ntmps149
  go_wp2_with fail
  go_ret
  have h0:n=0:=by
   cases n with
   | zero=>rfl
   | succ n=>obtain ⟨ad,e,_⟩:=hl.2 (by omega);cases e
  subst h0
  have hl0:xs=[]:=List.length_eq_zero_iff.1 (by have:=hl.1;omega)
  subst hl0
  exact ⟨⟨_,rfl,World.ownsRow_nil _ _ _ _⟩,Below.refl _ _⟩
 | some ad =>
  have hlit:(w.alloc (.cells #[] 134)).ownsRow w.heap.size 134 4 (.slice (some ⟨w.heap.size,0,none⟩) 0 0) 0 []:=World.ownsRow_lit w #[] 0 (Nat.le_refl _) (by simp only [maxLen];omega) (by simp)
  have hb0:=(Below.refl w.heap.size w).alloc (Nat.le_refl _) (.cells #[] 134)
  go_enter Tryz.func149,Tryz.ntmps149
  go_wp2_with (at_builtin;refine wp_append_rd rfl (.tmp 5) (.tmp 6) 22 rfl w.heap.size 134 i0 (.agg #[.int .i64 0,.int .i64 0,.int .i64 0,.int .i64 0]) 4 32 Tryz.underlying22 hi hz0 hz1 hz2 rfl (by decide) _ 0 _ rfl hlit (some ad) n c xs rfl (hl.below hb0) h1 (by simp only [maxLen];omega) (by omega) (by first | (simp;done) | (simp;omega)) ?_;intro v' w4 hown4 hgrow4 hat4)
  rw [Nat.zero_add] at hown4
  have hb4:Below w.heap.size w w4:=below_own hb0 (Nat.le_refl _) hgrow4 (fun g h=>(hlit.lt g h).1)
  clear hgrow4 hat4
  go_wp2_with fail
  go_ret
  exact ⟨⟨_,rfl,hown4⟩,hb4⟩
theorem eql25 (a:Option Addr) (l c:Nat) (w:World):(binOp .eql 25 (.slice a l c) (.slice none 0 0)).run Tryz.prog w=.ok (.bool a.isNone) w:=Go.run_eql_slice_nil w 25 63 a l c Tryz.underlying25
theorem clone150_info:(Tryz.prog.info? 63).map (fun i=>(i.zero,i.size,i.bytes))=some (some (.agg #[.int .i64 0,.int .i64 0,.int .i64 0,.int .i64 0,.int .i64 0,.slice none 0 0]),6,64):=by kernel_rfl
set_option maxHeartbeats 2000000 in
theorem clone150 (A:Option Addr) (n c:Nat) (xs:List Value) (w:World) (hl:Rd w 6 A n xs) (h1:∀ u ∈ xs,u.oneCell'=true) (hn:n≤1000000) :
  Calls Tryz.prog 150 #[.slice A n c] w fun e w'=>(∃ v,e=.returned v∧w'.ownsRow w.heap.size 63 6 v n xs)∧Below w.heap.size w w':=by
 obtain ⟨i0,hi,hz0,hz1,hz2⟩:=info_parts clone150_info
 have heq:=eql25
 cases A with
 | none =>
  go_enter Tryz.func150,Tryz.ntmps150
  go_wp2_with fail
  go_ret
  have h0:n=0:=by
   cases n with
   | zero=>rfl
   | succ n=>obtain ⟨ad,e,_⟩:=hl.2 (by omega);cases e
  subst h0
  have hl0:xs=[]:=List.length_eq_zero_iff.1 (by have:=hl.1;omega)
  subst hl0
  exact ⟨⟨_,rfl,World.ownsRow_nil _ _ _ _⟩,Below.refl _ _⟩
 | some ad =>
  have hlit:(w.alloc (.cells #[] 63)).ownsRow w.heap.size 63 6 (.slice (some ⟨w.heap.size,0,none⟩) 0 0) 0 []:=World.ownsRow_lit w #[] 0 (Nat.le_refl _) (by simp only [maxLen];omega) (by simp)
  have hb0:=(Below.refl w.heap.size w).alloc (Nat.le_refl _) (.cells #[] 63)
  go_enter Tryz.func150,Tryz.ntmps150
  go_wp2_with (at_builtin;refine wp_append_rd rfl (.tmp 5) (.tmp 6) 25 rfl w.heap.size 63 i0 (.agg #[.int .i64 0,.int .i64 0,.int .i64 0,.int .i64 0,.int .i64 0,.slice none 0 0]) 6 64 Tryz.underlying25 hi hz0 hz1 hz2 rfl (by decide) _ 0 _ rfl hlit (some ad) n c xs rfl (hl.below hb0) h1 (by simp only [maxLen];omega) (by omega) (by first | (simp;done) | (simp;omega)) ?_;intro v' w4 hown4 hgrow4 hat4)
  rw [Nat.zero_add] at hown4
  have hb4:Below w.heap.size w w4:=below_own hb0 (Nat.le_refl _) hgrow4 (fun g h=>(hlit.lt g h).1)
  clear hgrow4 hat4
  go_wp2_with fail
  go_ret
  exact ⟨⟨_,rfl,hown4⟩,hb4⟩
theorem eql26 (a:Option Addr) (l c:Nat) (w:World):(binOp .eql 26 (.slice a l c) (.slice none 0 0)).run Tryz.prog w=.ok (.bool a.isNone) w:=Go.run_eql_slice_nil w 26 47 a l c Tryz.underlying26
theorem clone120_info:(Tryz.prog.info? 47).map (fun i=>(i.zero,i.size,i.bytes))=some (some (.agg #[.int .i64 0,.int .i64 0,.int .i64 0,.int .i64 0,.int .i64 0,.int .i64 0,.slice none 0 0]),7,72):=by kernel_rfl
set_option maxHeartbeats 2000000 in
theorem clone120 (A:Option Addr) (n c:Nat) (xs:List Value) (w:World) (hl:Rd w 7 A n xs) (h1:∀ u ∈ xs,u.oneCell'=true) (hn:n≤1000000) :
  Calls Tryz.prog 120 #[.slice A n c] w fun e w'=>(∃ v,e=.returned v∧w'.ownsRow w.heap.size 47 7 v n xs)∧Below w.heap.size w w':=by
 obtain ⟨i0,hi,hz0,hz1,hz2⟩:=info_parts clone120_info
 have heq:=eql26
 cases A with
 | none =>
  go_enter Tryz.func120,Tryz.ntmps120
  go_wp2_with fail
  go_ret
  have h0:n=0:=by
   cases n with
   | zero=>rfl
   | succ n=>obtain ⟨ad,e,_⟩:=hl.2 (by omega);cases e
  subst h0
  have hl0:xs=[]:=List.length_eq_zero_iff.1 (by have:=hl.1;omega)
  subst hl0
  exact ⟨⟨_,rfl,World.ownsRow_nil _ _ _ _⟩,Below.refl _ _⟩
 | some ad =>
  have hlit:(w.alloc (.cells #[] 47)).ownsRow w.heap.size 47 7 (.slice (some ⟨w.heap.size,0,none⟩) 0 0) 0 []:=World.ownsRow_lit w #[] 0 (Nat.le_refl _) (by simp only [maxLen];omega) (by simp)
  have hb0:=(Below.refl w.heap.size w).alloc (Nat.le_refl _) (.cells #[] 47)
  go_enter Tryz.func120,Tryz.ntmps120
  go_wp2_with (at_builtin;refine wp_append_rd rfl (.tmp 5) (.tmp 6) 26 rfl w.heap.size 47 i0 (.agg #[.int .i64 0,.int .i64 0,.int .i64 0,.int .i64 0,.int .i64 0,.int .i64 0,.slice none 0 0]) 7 72 Tryz.underlying26 hi hz0 hz1 hz2 rfl (by decide) _ 0 _ rfl hlit (some ad) n c xs rfl (hl.below hb0) h1 (by simp only [maxLen];omega) (by omega) (by first | (simp;done) | (simp;omega)) ?_;intro v' w4 hown4 hgrow4 hat4)
  rw [Nat.zero_add] at hown4
  have hb4:Below w.heap.size w w4:=below_own hb0 (Nat.le_refl _) hgrow4 (fun g h=>(hlit.lt g h).1)
  clear hgrow4 hat4
  go_wp2_with fail
  go_ret
  exact ⟨⟨_,rfl,hown4⟩,hb4⟩
set_option maxRecDepth 100000 in
set_option maxHeartbeats 8000000 in
theorem rising107_any (A:Option Addr) (n c:Nat) (l:List Int) (m:Nat) (w:World) (hl:Ints w A n l) (hn:n≤1000000000) (hm:m≤1000000000) :
  Calls Tryz.prog 107 #[.slice A n c,.int .i64 m] w fun e w'=>e=.returned (.bool (K.asc33 m (-1) l))∧Below w.heap.size w w':=by
 obtain ⟨R,hR⟩:∃ R,R=K.asc33 m (-1) l:=⟨_,rfl⟩
 rw [←hR]
 have HR:=Lib.hid hR
 clear hR
 go_enter Tryz.func107,Tryz.ntmps107
 go_wp2_with fail
 go_loopw [9] (fun v wr=>∃ (k:Nat) (p:Int),v=.int .i64 k∧k≤n∧Hid (R=K.asc33 m p (l.drop k))∧Hid ((k=0∧p=-1)∨∃ j,k=j + 1∧l[j]? = some p∧0≤p)∧Below w.heap.size w wr) (fun v _=>n - (intOf v).toNat)
 case atStart=>exact ⟨0,-1,rfl,Nat.zero_le _,(by show _=_;rw [List.drop_zero];exact HR.out),.inl ⟨rfl,rfl⟩,Below.refl _ _⟩
 case round =>
  obtain ⟨k,p,rfl,hk,hr,hp,hb⟩:=hrel
  by_cases hlt:k < n
  ·obtain ⟨ad,y,hA,hg,c0⟩:=(hl.below hb).at_ hlt
   have HS:=Lib.hid (show R=(!decide (y≤p) && (!decide ((m:Int)≤y) && K.asc33 m y (l.drop (k + 1)))) by rw [hr.out,drop_of_some hg,K.asc33])
   have HG:=Lib.hid hg
   have k0:(0:Int)≤(k:Int):=by omega
   have k1:(k:Int) < (n:Int):=by omega
   by_cases h1:y < 0
   ·have HX:=Lib.hid (show R=false by
     have:decide (y≤p)=true:=by
      rcases hp.out with ⟨-,e⟩ | ⟨j,-,-,e⟩ <;> simp <;> omega
     rw [HS.out,this];rfl)
    have d1:decide (y < 0)=true:=by simp;omega
    clear hg h1
    rw [hA]
    clear hA
    go_wp2_with fail
    go_ret
    exact ⟨by rw [HX.out];rfl,hb⟩
   have d1:decide (y < 0)=false:=by simp;omega
   by_cases h2:(m:Int)≤y
   ·have HX:=Lib.hid (show R=false by rw [HS.out,decide_eq_true h2];simp)
    have d2:decide ((m:Int)≤y)=true:=decide_eq_true h2
    clear hg h1 h2
    rw [hA]
    clear hA
    go_wp2_with fail
    go_ret
    exact ⟨by rw [HX.out];rfl,hb⟩
   have d2:decide ((m:Int)≤y)=false:=decide_eq_false h2
   have h10:0≤y:=by omega
   have HNX:=Lib.hid (show (k + 1=0∧y=-1)∨∃ j,k + 1=j + 1∧l[j]? = some y∧0≤y from .inr ⟨k,rfl,hg,h10⟩)
   rcases hp.out with ⟨h0,hp1⟩ | ⟨j,hkj,hj,hp0⟩
   ·have d3:decide ((0:Int) < (k:Int))=false:=by simp;omega
    have d3':decide (0 < k)=false:=by simp;omega
    have HX:=Lib.hid (show R=K.asc33 m y (l.drop (k + 1)) by rw [HS.out,d2,show decide (y≤p)=false by simp;omega];simp)
    clear hg h1 h2 h10 HS h0 hp1
    rw [hA]
    clear hA
    go_wp2_with fail
    go_roundw
    case rel=>exact ⟨k + 1,y,by go_num,by omega,HX.out,HNX.out,hb⟩
    case measure=>simp [intOf];omega
   ·obtain ⟨ad2,p2,hA2,hj2,c2⟩:=(hl.below hb).at_ (show j < n by omega)
    rw [hA] at hA2
    injection hA2 with hA2
    subst hA2
    obtain rfl:p2=p:=by rw [hj] at hj2;injection hj2 with h9;exact h9.symm
    have d3:decide ((0:Int) < (k:Int))=true:=by simp;omega
    have d3':decide (0 < k)=true:=by simp;omega
    have f2:(k:Int) - 1=(j:Int):=by omega
    have f3:IntKind.i64.wrap ((k:Int) - 1)=(j:Int):=by rw [f2];exact IntWalk.i64_in _ (by omega)
    have f4:decide ((j:Int) < 0)=false:=by simp
    have f5:max (j:Int) 0=(j:Int):=by omega
    have f6:(j:Int) < (n:Int):=by omega
    have f7:(0:Int)≤(j:Int):=by omega
    by_cases h3:y≤p2
    ·have HX:=Lib.hid (show R=false by rw [HS.out,decide_eq_true h3];rfl)
     have d4:decide (y≤p2)=true:=decide_eq_true h3
     clear hg h1 h2 h3 h10 HS hj hj2 hkj
     rw [hA]
     clear hA
     go_wp2_with fail
     go_ret
     exact ⟨by rw [HX.out];rfl,hb⟩
    ·have HX:=Lib.hid (show R=K.asc33 m y (l.drop (k + 1)) by rw [HS.out,d2,decide_eq_false h3];simp)
     have d4:decide (y≤p2)=false:=decide_eq_false h3
     clear hg h1 h2 h3 h10 HS hj hj2 hkj
     rw [hA]
     clear hA
     go_wp2_with fail
     go_roundw
     case rel=>exact ⟨k + 1,y,by go_num,by omega,HX.out,HNX.out,hb⟩
     case measure=>simp [intOf];omega
  ·have HX:=Lib.hid (show R=true by rw [hr.out,List.drop_eq_nil_of_le (by rw [←hl.1];omega)];rfl)
   have hd:decide ((k:Int) < (n:Int))=false:=by simp;omega
   have hd2:decide (k < n)=false:=by simp;omega
   go_wp2_with fail
   go_ret
   exact ⟨by rw [HX.out];rfl,hb⟩
theorem own_base {w:World} {base base':Nat} {e:TypeId} {size n:Nat} {v:Value} {xs:List Value} (h:w.ownsRow base' e size v n xs) (hb:base≤base'):w.ownsRow base e size v n xs:=by
 obtain ⟨hl,h1 | ⟨g,cap,cur,e1,e2,e3⟩⟩:=h
 ·exact ⟨hl,.inl h1⟩
 ·exact ⟨hl,.inr ⟨g,cap,cur,e1,Nat.le_trans hb e2,e3⟩⟩
theorem rd_lit {w:World} {g:Nat} {q:Q} (h:w.heap[g]? = some (.cells #[.int .i64 q.node,.int .i64 q.room,.int .i64 q.kilos,.int .i64 q.service,.int .i64 q.frm,.int .i64 q.by_,.slice q.A q.n q.c] 47 (0,0))):Rd w 7 (some ⟨g,0,none⟩) 1 q.cells:=Rd.of_block h 7 1 rfl
set_option maxRecDepth 100000 in
set_option maxHeartbeats 8000000 in
theorem with112_any (A:Option Addr) (n c:Nat) (r:List Q) (q:Q) (w:World) (hl:Rd w 7 A n (r.flatMap Q.cells)) (hn:n≤100000) :
  Calls Tryz.prog 112 #[.slice A n c,.agg #[.int .i64 q.node,.int .i64 q.room,.int .i64 q.kilos,.int .i64 q.service,.int .i64 q.frm,.int .i64 q.by_,.slice q.A q.n q.c]] w fun e w'=>(∃ v,e=.returned v∧w'.ownsRow w.heap.size 47 7 v (n + 1) ((r ++ [q]).flatMap Q.cells))∧Below w.heap.size w w':=by
 obtain ⟨w1,hw1⟩:∃ w1:World,w1=w.alloc (.cells #[.int .i64 q.node,.int .i64 q.room,.int .i64 q.kilos,.int .i64 q.service,.int .i64 q.frm,.int .i64 q.by_,.slice q.A q.n q.c] 47):=⟨_,rfl⟩
 have b1:Below w.heap.size w w1:=by rw [hw1];exact (Below.refl _ _).alloc (Nat.le_refl _) _
 obtain ⟨g,hg⟩:∃ g,g=w.heap.size:=⟨_,rfl⟩
 have hB1:QBlk w1 g q:=by rw [hw1,hg];exact QBlk.new _ _
 have HMK:=Lib.hid (show ∀ w',Below w1.heap.size w1 w'→(fun w':World=>w'.cell? ⟨g,0,none⟩=some (.int .i64 q.node)∧w'.cell? ⟨g,1,none⟩=some (.int .i64 q.room)∧w'.cell? ⟨g,2,none⟩=some (.int .i64 q.kilos)∧w'.cell? ⟨g,3,none⟩=some (.int .i64 q.service)∧w'.cell? ⟨g,4,none⟩=some (.int .i64 q.frm)∧w'.cell? ⟨g,5,none⟩=some (.int .i64 q.by_)∧w'.cell? ⟨g,6,none⟩=some (.slice q.A q.n q.c)) w' from fun w' h=>(hB1.below h).cells)
 obtain ⟨i0,hi,hz0,hz1,hz2⟩:=info_parts clone120_info
 have hone:=flat_one Q.cells req_one r
 have hR0:Below w1.heap.size w1 w1:=Below.refl _ _
 have hR0d:Below w1.heap.size w1 w1.drew:=hR0.drew
 have hRa:Below w1.heap.size w1 (w1.alloc (.cells #[.int .i64 q.node,.int .i64 q.room,.int .i64 q.kilos,.int .i64 q.service,.int .i64 q.frm,.int .i64 q.by_,.slice q.A q.n q.c] 47)):=(Below.refl _ _).alloc (Nat.le_refl _) _
 have hRad:Below w1.heap.size w1 (w1.alloc (.cells #[.int .i64 q.node,.int .i64 q.room,.int .i64 q.kilos,.int .i64 q.service,.int .i64 q.frm,.int .i64 q.by_,.slice q.A q.n q.c] 47)).drew:=hRa.drew
 have S0:=HMK.out _ hR0
 have S0d:=HMK.out _ hR0d
 have S0a:=HMK.out _ hRa
 have S0ad:=HMK.out _ hRad
 have hLa:(w1.alloc (.cells #[.int .i64 q.node,.int .i64 q.room,.int .i64 q.kilos,.int .i64 q.service,.int .i64 q.frm,.int .i64 q.by_,.slice q.A q.n q.c] 47)).drew.heap[w1.heap.size]? = some (.cells #[.int .i64 q.node,.int .i64 q.room,.int .i64 q.kilos,.int .i64 q.service,.int .i64 q.frm,.int .i64 q.by_,.slice q.A q.n q.c] 47 (0,0)):=heap_alloc_new w1 _
 have h63:n + 1≤maxLen:=by simp only [maxLen];omega
 have h47:(n + 1) * 72≤140737488355328:=by omega
 have HG:=Lib.hid hg
 go_enter Tryz.func112,Tryz.ntmps112
 go_upto_region 1 with fail
 rw [←hw1,←hg]
 clear hw1 hg
 have hl1:=hl.below b1
 go_region_held3 (fun w':World=>w'.cell? ⟨g,0,none⟩=some (.int .i64 q.node)∧w'.cell? ⟨g,1,none⟩=some (.int .i64 q.room)∧w'.cell? ⟨g,2,none⟩=some (.int .i64 q.kilos)∧w'.cell? ⟨g,3,none⟩=some (.int .i64 q.service)∧w'.cell? ⟨g,4,none⟩=some (.int .i64 q.frm)∧w'.cell? ⟨g,5,none⟩=some (.int .i64 q.by_)∧w'.cell? ⟨g,6,none⟩=some (.slice q.A q.n q.c))
  (first | with_reducible exact S2 | with_reducible exact S1a | with_reducible exact S1 | with_reducible exact S0ad | with_reducible exact S0a | with_reducible exact S0d | with_reducible exact S0 | fail)
  (first
   | (go_at_call 120;(first
     | (with_reducible (refine (clone120 A n c _ _ (hl1.below hR0d) hone (by omega)).mono ?_;rintro e wc ⟨⟨v,rfl,hv⟩,bc⟩;have b2:=bel hR0d bc;have b2d:=hR0d.size))
     | (with_reducible (refine (clone120 A n c _ _ (hl1.below hRad) hone (by omega)).mono ?_;rintro e wc ⟨⟨v,rfl,hv⟩,bc⟩;have b2:=bel hRad bc;have b2d:=hRad.size;have hL:=blk_below bc hLa))
     | fail);have S1:=HMK.out _ b2;have S1a:=HMK.out _ (bel b2 ((Below.refl _ _).alloc (Nat.le_refl _) (.cells #[.int .i64 q.node,.int .i64 q.room,.int .i64 q.kilos,.int .i64 q.service,.int .i64 q.frm,.int .i64 q.by_,.slice q.A q.n q.c] 47)));have bca:Below wc.heap.size wc (wc.alloc (.cells #[.int .i64 q.node,.int .i64 q.room,.int .i64 q.kilos,.int .i64 q.service,.int .i64 q.frm,.int .i64 q.by_,.slice q.A q.n q.c] 47)):=(Below.refl _ _).alloc (Nat.le_refl _) _)
   | (have h9:=hv;clear hv;apply step_append_rd (hgd:=rfl) (s:=.tmp 6) (x:=.tmp 8) (t:=26) (ho:=rfl) (base:=w1.heap.size) (e:=47) (i:=i0) (z:=(.agg #[.int .i64 0,.int .i64 0,.int .i64 0,.int .i64 0,.int .i64 0,.int .i64 0,.slice none 0 0])) (size:=7) (bytes:=72) (ht:=Tryz.underlying26) (hi:=hi) (hz:=hz0) (hsize:=hz1) (hby:=hz2) (hzs:=rfl) (hsz:=by decide) (v:=v) (n:=n) (xs:=r.flatMap Q.cells) (hs:=rfl) (A:=some ⟨_,0,none⟩) (m:=1) (c:=1) (news:=q.cells) (hx:=rfl) (h1:=req_one q) (h63:=h63) (hbytes:=h47);rotate_right 1;(first | with_reducible exact own_base h9 b2d | with_reducible exact own_base (own_below h9 bca) b2d | fail);(first | with_reducible exact rd_lit hL | with_reducible exact rd_lit (heap_alloc_new wc _) | fail);(first | with_reducible exact b2.size | with_reducible exact (bel b2 bca).size | fail);intro v7 w7 hown7 hgr7 _;(first | (have b7:Below w1.heap.size w1 w7:=by with_reducible exact below_own2 b2 hgr7 (fun g e=>Nat.le_trans b2d ((own_in h9 g e).1))) | (have b7:Below w1.heap.size w1 w7:=by with_reducible exact below_own2 (bel b2 bca) hgr7 (fun g e=>Nat.le_trans b2d ((own_in h9 g e).1))) | fail);have S2:=HMK.out _ b7)
   | fail)
 all_goals go_wp2_with fail
 all_goals go_ret
 all_goals exact ⟨⟨_,rfl,by rw [List.flatMap_append,List.flatMap_singleton];exact own_base hown7 b1.size⟩,bel b1 b7⟩
namespace K
theorem restGo_app {lost:List Int}:∀ (a b:List S) (i:Nat),restGo lost i (a ++ b)=restGo lost i a ++ restGo lost (i + a.length) b
 | [],b,i=>rfl
 | s :: a,b,i=>by
  rw [List.cons_append,restGo,restGo,restGo_app a b,List.length_cons,show i + 1 + a.length=i + (a.length + 1) by omega]
  split <;> rfl
theorem restGo_take {lost:List Int} {ss:List S} {k:Nat} {s:S} (h:ss[k]? = some s):restGo lost 0 (ss.take (k + 1))=restGo lost 0 (ss.take k) ++ if lost.any (· == (k:Int))=true then [] else [s]:=by
 have hk:=(List.getElem?_eq_some_iff.1 h).1
 rw [take_snoc h,restGo_app,List.length_take,Nat.min_eq_left (Nat.le_of_lt hk),Nat.zero_add]
 congr 1
 have e:lost.contains (k:Int)=lost.any (· == (k:Int)):=by
  rw [Bool.eq_iff_iff,List.contains_iff_mem,List.any_eq_true]
  exact ⟨fun h=>⟨_,h,by simp⟩,fun ⟨y,h1,h2⟩=>by rw [←beq_iff_eq.1 h2];exact h1⟩
 show (if lost.contains (k:Int)=true then [] else [s])=_
 rw [e]
end K
theorem eql45 (a:Option Addr) (l c:Nat) (w:World):(binOp .eql 45 (.slice a l c) (.slice none 0 0)).run Tryz.prog w=.ok (.bool a.isNone) w:=Go.run_eql_slice_nil w 45 158 a l c Tryz.underlying45
def Fresh (B:Nat) (A:Option Addr) (n:Nat):Prop:=0 < n→∀ ad,A=some ad→B≤ad.block
theorem fresh_own {w:World} {base:Nat} {e:TypeId} {size n m c:Nat} {A:Option Addr} {xs:List Value} (h:w.ownsRow base e size (.slice A n c) m xs):Fresh base A n:=fun _ ad e=>by
 subst e
 obtain ⟨-,-,-,-,h3⟩:=own_form h
 exact (h3 _ rfl).1
set_option maxHeartbeats 2000000 in
theorem clone_wins (A:Option Addr) (n c:Nat) (l:List (Int × Int)) (w:World) (hl:Wins w A n l) (hn:n≤1000000) :
  Calls Tryz.prog 196 #[.slice A n c] w fun e w'=>(∃ A' c',e=.returned (.slice A' n c')∧Wins w' A' n l∧Fresh w.heap.size A' n)∧Below w.heap.size w w':=by
 obtain ⟨i0,hi,hz0,hz1,hz2⟩:=info_parts Tryz.info158
 have heq:=eql45
 cases A with
 | none =>
  go_enter Tryz.func196,Tryz.ntmps196
  go_wp2_with fail
  go_ret
  have h0:n=0:=by
   cases n with
   | zero=>rfl
   | succ n=>obtain ⟨ad,e,_⟩:=hl.2.2 (by omega);cases e
  subst h0
  have hl0:l=[]:=List.length_eq_zero_iff.1 hl.1.symm
  subst hl0
  exact ⟨⟨none,0,rfl,⟨rfl,rfl,fun h=>absurd h (by omega)⟩,fun h=>absurd h (by omega)⟩,Below.refl _ _⟩
 | some ad =>
  have hlit:(w.alloc (.cells #[] 158)).ownsRow w.heap.size 158 2 (.slice (some ⟨w.heap.size,0,none⟩) 0 0) 0 []:=World.ownsRow_lit w #[] 0 (Nat.le_refl _) (by simp only [maxLen];omega) (by simp)
  have hb0:=(Below.refl w.heap.size w).alloc (Nat.le_refl _) (.cells #[] 158)
  go_enter Tryz.func196,Tryz.ntmps196
  go_wp2_with (at_builtin;refine wp_append_rd rfl (.tmp 5) (.tmp 6) 45 rfl w.heap.size 158 i0 (.agg #[.int .i64 0,.int .i64 0]) 2 16 Tryz.underlying45 hi hz0 hz1 hz2 rfl (by decide) _ 0 _ rfl hlit (some ad) n c (winCells l) rfl (hl.below hb0).2 (winCells_one l) (by simp only [maxLen];omega) (by omega) (by first | (simp;done) | (simp;omega)) ?_;intro v' w4 hown4 hgrow4 hat4)
  rw [Nat.zero_add] at hown4
  have hb4:Below w.heap.size w w4:=below_own hb0 (Nat.le_refl _) hgrow4 (fun g h=>(hlit.lt g h).1)
  clear hgrow4 hat4
  obtain ⟨A',c',rfl,hR,-⟩:=own_form hown4
  have hF:=fresh_own hown4
  rw [List.nil_append] at hR
  go_wp2_with fail
  go_ret
  exact ⟨⟨_,_,rfl,⟨hl.1,hR⟩,hF⟩,hb4⟩
def Set7 (w:World) (g:Nat) (y0 y1 y2 y3 y4 y5 y6:Value):World:=((((((w.setCell ⟨g,0,none⟩ y0).setCell ⟨g,1,none⟩ y1).setCell ⟨g,2,none⟩ y2).setCell ⟨g,3,none⟩ y3).setCell ⟨g,4,none⟩ y4).setCell ⟨g,5,none⟩ y5).setCell ⟨g,6,none⟩ y6
theorem set7_blk {w:World} {g:Nat} {x0 x1 x2 x3 x4 x5 x6:Value} {t:TypeId} (h:w.heap[g]? = some (.cells #[x0,x1,x2,x3,x4,x5,x6] t (0,0))) (y0 y1 y2 y3 y4 y5 y6:Value):(Set7 w g y0 y1 y2 y3 y4 y5 y6).heap[g]? = some (.cells #[y0,y1,y2,y3,y4,y5,y6] t (0,0)):=by
 have c0:=blk_set h 0 y0
 have c1:=blk_set c0 1 y1
 have c2:=blk_set c1 2 y2
 have c3:=blk_set c2 3 y3
 have c4:=blk_set c3 4 y4
 have c5:=blk_set c4 5 y5
 have c6:=blk_set c5 6 y6
 have e:((((((((#[x0,x1,x2,x3,x4,x5,x6]:Array Value).setIfInBounds 0 y0).setIfInBounds 1 y1).setIfInBounds 2 y2).setIfInBounds 3 y3).setIfInBounds 4 y4).setIfInBounds 5 y5).setIfInBounds 6 y6)=#[y0,y1,y2,y3,y4,y5,y6]:=by simp only [List.setIfInBounds_toArray,List.set_cons_zero,List.set_cons_succ]
 rw [e] at c6
 exact c6
theorem set7_below {B:Nat} {a w:World} {g:Nat} (h:Below B a w) (hg:B≤g) (y0 y1 y2 y3 y4 y5 y6:Value):Below B a (Set7 w g y0 y1 y2 y3 y4 y5 y6) :=
 ((((((h.setCell (p:=⟨g,0,none⟩) hg y0).setCell (p:=⟨g,1,none⟩) hg y1).setCell (p:=⟨g,2,none⟩) hg y2).setCell (p:=⟨g,3,none⟩) hg y3).setCell (p:=⟨g,4,none⟩) hg y4).setCell (p:=⟨g,5,none⟩) hg y5).setCell (p:=⟨g,6,none⟩) hg y6
set_option maxRecDepth 100000 in
set_option maxHeartbeats 4000000 in
theorem copied_any (q:Q) (w:World) (hq:Wins w q.A q.n q.l) (hn:q.n≤1000000) :
  Calls Tryz.prog 148 #[.agg #[.int .i64 q.node,.int .i64 q.room,.int .i64 q.kilos,.int .i64 q.service,.int .i64 q.frm,.int .i64 q.by_,.slice q.A q.n q.c]] w fun e w'=>(∃ A' c',e=.returned (.agg #[.int .i64 q.node,.int .i64 q.room,.int .i64 q.kilos,.int .i64 q.service,.int .i64 q.frm,.int .i64 q.by_,.slice A' q.n c'])∧Wins w' A' q.n q.l∧Fresh w.heap.size A' q.n)∧Below w.heap.size w w':=by
 obtain ⟨g,hg⟩:∃ g,g=w.heap.size:=⟨_,rfl⟩
 obtain ⟨w0,hw0⟩:∃ w0:World,w0=w.alloc (.cells #[.int .i64 q.node,.int .i64 q.room,.int .i64 q.kilos,.int .i64 q.service,.int .i64 q.frm,.int .i64 q.by_,.slice q.A q.n q.c] 47):=⟨_,rfl⟩
 have b0:Below w.heap.size w w0:=by rw [hw0];exact (Below.refl _ _).alloc (Nat.le_refl _) _
 have z0:w0.heap.size=w.heap.size + 1:=by rw [hw0];exact World.size_alloc _ _
 have hB0:QBlk w0 g q:=by rw [hw0,hg];exact QBlk.new _ _
 obtain ⟨w1,hw1⟩:∃ w1:World,w1=w0.alloc (.cells #[.int .i64 0,.int .i64 0,.int .i64 0,.int .i64 0,.int .i64 0,.int .i64 0,.slice none 0 0] 47):=⟨_,rfl⟩
 have b1:Below w0.heap.size w0 w1:=by rw [hw1];exact (Below.refl _ _).alloc (Nat.le_refl _) _
 have hB2:w1.heap[g + 1]? = some (.cells #[.int .i64 0,.int .i64 0,.int .i64 0,.int .i64 0,.int .i64 0,.int .i64 0,.slice none 0 0] 47 (0,0)):=by rw [hw1,hg,←z0];exact heap_alloc_new _ _
 have hB1:=hB0.below b1
 have hb1:=bel b0 b1
 have c6:=hB1.cells.2.2.2.2.2.2
 have hgg:w.heap.size≤g:=by omega
 have hg1s:g + 1 < w1.heap.size:=(Array.getElem?_eq_some_iff.1 hB2).1
 rw [hw1,hw0,hg] at c6
 go_enter Tryz.func148,Tryz.ntmps148
 go_wp2_with fail
 rw [←hw0,←hw1,←hg]
 clear hw1 hw0 hg hB0 z0 b0 b1 c6
 refine (clone_wins q.A q.n q.c q.l w1 (hq.below hb1) hn).mono ?_
 rintro e w2 ⟨⟨A',c',rfl,hW,hF⟩,b2⟩
 have hb2:=bel hb1 b2
 have hsz:=hb1.size
 have hB1:=hB1.below b2
 have hB2:=blk_below b2 hB2
 obtain ⟨c0,c1,c2,c3,c4,c5,c6⟩:=hB1.cells
 have f1:=blk_free hB1
 have f2:=blk_free hB2
 have e0:=blk_cell hB2 0 _ rfl
 have e1:=blk_cell hB2 1 _ rfl
 have e2:=blk_cell hB2 2 _ rfl
 have e3:=blk_cell hB2 3 _ rfl
 have e4:=blk_cell hB2 4 _ rfl
 have e5:=blk_cell hB2 5 _ rfl
 have e6:=blk_cell hB2 6 _ rfl
 have hwl:∀ (h0:0 < q.n) ad,A'=some ad→w.heap.size≤ad.block:=fun h0 ad e=>Nat.le_trans hsz (hF h0 ad e)
 have hgs:g + 1 < w1.heap.size:=hg1s
 have HNE:=Lib.hid (show 0 < q.n→∀ ad,A'=some ad→ad.block ≠ g∧ad.block ≠ g + 1 from fun h0 ad e=>by
  have h1:=hF h0 ad e
  omega)
 go_wp2_with fail
 obtain ⟨wy,hwy⟩:∃ wy,wy=w2.setCell ⟨g,6,none⟩ (.slice A' q.n c'):=⟨_,rfl⟩
 obtain ⟨wz,hwz⟩:∃ wz,wz=Set7 wy (g + 1) (.int .i64 q.node) (.int .i64 q.room) (.int .i64 q.kilos) (.int .i64 q.service) (.int .i64 q.frm) (.int .i64 q.by_) (.slice A' q.n c'):=⟨_,rfl⟩
 have hY:wy.heap[g + 1]? = some (.cells #[.int .i64 0,.int .i64 0,.int .i64 0,.int .i64 0,.int .i64 0,.int .i64 0,.slice none 0 0] 47 (0,0)):=by
  rw [hwy]
  exact (Sets.other [(⟨g,6,none⟩,.slice A' q.n c')] w2 (g + 1) (fun p hp=>by rw [List.mem_singleton.1 hp];simp)).trans hB2
 have hZ:wz.heap[g + 1]? = some (.cells #[.int .i64 q.node,.int .i64 q.room,.int .i64 q.kilos,.int .i64 q.service,.int .i64 q.frm,.int .i64 q.by_,.slice A' q.n c'] 47 (0,0)):=by
  rw [hwz]
  exact set7_blk hY _ _ _ _ _ _ _
 have bz:Below w.heap.size w wz:=by
  rw [hwz,hwy]
  exact set7_below (hb2.setCell (p:=⟨g,6,none⟩) hgg _) (by omega) _ _ _ _ _ _ _
 have hWz:Wins wz A' q.n q.l:=by
  refine ⟨hW.1,hW.2.1,fun h0=>?_⟩
  obtain ⟨ad,e,hc⟩:=hW.2.2 h0
  obtain ⟨n1,n2⟩:=HNE.out h0 ad e
  refine ⟨ad,e,fun k u hu=>?_⟩
  have h9:wz.heap[(ad.add k).block]? = w2.heap[(ad.add k).block]?:=by
   rw [hwz,hwy]
   refine Sets.other [(⟨g,6,none⟩,.slice A' q.n c'),(⟨g + 1,0,none⟩,.int .i64 q.node),(⟨g + 1,1,none⟩,.int .i64 q.room),(⟨g + 1,2,none⟩,.int .i64 q.kilos),(⟨g + 1,3,none⟩,.int .i64 q.service),(⟨g + 1,4,none⟩,.int .i64 q.frm),(⟨g + 1,5,none⟩,.int .i64 q.by_),(⟨g + 1,6,none⟩,.slice A' q.n c')] w2 _ (fun p hp=>?_)
   simp only [List.mem_cons,List.not_mem_nil,or_false] at hp
   rw [add_block]
   rcases hp with rfl | rfl | rfl | rfl | rfl | rfl | rfl | rfl
   ·exact fun e=>n1 e.symm
   all_goals exact fun e=>n2 e.symm
  exact (World.cell?_of_block h9).trans (hc k u hu)
 unfold Set7 at hwz
 rw [←hwy,←hwz]
 refine bodyPost_ret_by (v:=.agg #[.int .i64 q.node,.int .i64 q.room,.int .i64 q.kilos,.int .i64 q.service,.int .i64 q.frm,.int .i64 q.by_,.slice A' q.n c']) (results_cell_row rfl _ wz (g + 1) 47 _ (0,0) _ rfl hZ Tryz.underlying47 rfl (by kernel_rfl)) rfl ?_
 exact ⟨⟨A',c',rfl,hWz,fun h0 ad e=>hwl h0 ad e⟩,bz⟩
theorem Wins.lt_of {w:World} {A:Option Addr} {n:Nat} {l:List (Int × Int)} (h:Wins w A n l) (h0:0 < n) {ad:Addr} (e:A=some ad):ad.block < w.heap.size:=by
 obtain ⟨ad',o,c,e',-,hc,-⟩:=h.at_ h0
 rw [e] at e'
 injection e' with e'
 subst e'
 have:=cell_lt hc
 rwa [add_block] at this
theorem Wins.grow {w w':World} {A:Option Addr} {n:Nat} {l:List (Int × Int)} {r:Option Nat} (h:Wins w A n l) (hg:w.grownBy w' r) (hne:0 < n→∀ ad,A=some ad→some ad.block ≠ r):Wins w' A n l:=by
 refine ⟨h.1,h.2.1,fun h0=>?_⟩
 obtain ⟨ad,e,hc⟩:=h.2.2 h0
 refine ⟨ad,e,fun j u hu=>?_⟩
 have c:=hc j u hu
 exact (World.cell?_of_block (hg.block _ (cell_lt c) (by rw [add_block];exact hne h0 ad e))).trans c
def QOk (w:World) (v:Value) (L:List Q):Prop:=∀ q ∈ L,Wins w q.A q.n q.l∧OffRow q.A q.n v
theorem QOk.below {w w':World} {v:Value} {L:List Q} (h:QOk w v L) (hb:Below w.heap.size w w'):QOk w' v L:=fun q hq=>⟨(h q hq).1.below hb,(h q hq).2⟩
theorem QOk.snoc {w w':World} {v v':Value} {L:List Q} (h:QOk w v L) {q:Q} (hq:Wins w q.A q.n q.l) (ho:OffRow q.A q.n v) (hg:w.grownBy w' v.ownBlock) (ha:v'.ownBlock=v.ownBlock∨v'.ownBlock=some w.heap.size):QOk w' v' (L ++ [q]):=fun y hy=>by
 have h1:Wins w y.A y.n y.l∧OffRow y.A y.n v:=by
  rcases List.mem_append.1 hy with hy | hy
  ·exact h y hy
  ·rw [List.mem_singleton.1 hy];exact ⟨hq,ho⟩
 refine ⟨h1.1.grow hg (fun h0 ad e e2=>h1.2 h0 ad e e2.symm),fun h0 ad e e2=>?_⟩
 rcases ha with e3 | e3
 ·rw [e3] at e2;exact h1.2 h0 ad e e2
 ·rw [e3] at e2
  injection e2 with e2
  have:=h1.1.lt_of h0 e
  omega
theorem own_cap33 {w:World} {base:Nat} {e:TypeId} {size n n' c:Nat} {A:Option Addr} {xs:List Value} (h:w.ownsRow base e size (.slice A n' c) n xs):n≤c:=by
 obtain ⟨-,⟨e,e0⟩ | ⟨g',cap,cur,e,-,-,h9,-⟩⟩:=h
 ·rw [e0];exact Nat.zero_le _
 ·injection e with e1 e2 e3
  rw [e3];exact h9
def NQ (B:Nat) (L:List Q):Prop:=∀ q ∈ L,0 < q.n→∀ ad,q.A=some ad→B≤ad.block
theorem NQ.snoc {B:Nat} {L:List Q} (h:NQ B L) {q:Q} (hq:0 < q.n→∀ ad,q.A=some ad→B≤ad.block):NQ B (L ++ [q]):=fun y hy=>by
 rcases List.mem_append.1 hy with hy | hy
 ·exact h y hy
 ·rw [List.mem_singleton.1 hy];exact hq
def RetWith (w w':World) (m:Nat) (M:List Q) (e:Ending):Prop :=
 (∃ A k L,e=.returned (.slice A m k)∧Reqs w' A m L∧L.map Q.bare=M.map Q.bare∧m≤k∧(∀ ad,A=some ad→w.heap.size≤ad.block)∧NQ w.heap.size L)∧Below w.heap.size w w'
theorem same_n {w:World} {A:Option Addr} {n:Nat} {L M:List Q} (h:Reqs w A n L) (e:L.map Q.bare=M.map Q.bare) {N:Nat} (hM:∀ q ∈ M,q.l.length≤N):∀ q ∈ L,q.n≤N:=fun q hq=>by
 have h1:=(h.2.2 q hq).1
 have h2:q.bare ∈ M.map Q.bare:=by rw [←e];exact List.mem_map.2 ⟨q,hq,rfl⟩
 obtain ⟨q',h3,h4⟩:=List.mem_map.1 h2
 have h5:q'.l=q.l:=show q'.bare.l=q.bare.l by rw [h4]
 have:=hM q' h3
 rw [h5] at this
 omega
set_option maxRecDepth 100000 in
set_option maxHeartbeats 8000000 in
theorem with_any (B:Option Addr) (n c:Nat) (r:List Q) (V:Option Addr) (vn vc:Nat) (v:List Int) (x:Q) (w:World) (hR:Reqs w B n r) (hV:Ints w V vn v) (hv:∀ i ∈ v,0≤i∧i < (r.length:Int)) (hX:Wins w x.A x.n x.l)
  (hrn:∀ q ∈ r,q.n≤1000000) (hxn:x.n≤1000000) (hvn:vn≤1000) :
  Calls Tryz.prog 95 #[.slice B n c,.slice V vn vc,.agg #[.int .i64 x.node,.int .i64 x.room,.int .i64 x.kilos,.int .i64 x.service,.int .i64 x.frm,.int .i64 x.by_,.slice x.A x.n x.c]] w fun e w'=>RetWith w w' (vn + 1) (K.pick33 r v x) e:=by
 obtain ⟨g,hg⟩:∃ g,g=w.heap.size:=⟨_,rfl⟩
 obtain ⟨w1,hw1⟩:∃ w1:World,w1=w.alloc (.cells #[.int .i64 x.node,.int .i64 x.room,.int .i64 x.kilos,.int .i64 x.service,.int .i64 x.frm,.int .i64 x.by_,.slice x.A x.n x.c] 47):=⟨_,rfl⟩
 have b1:Below w.heap.size w w1:=by rw [hw1];exact (Below.refl _ _).alloc (Nat.le_refl _) _
 have hB1:QBlk w1 g x:=by rw [hw1,hg];exact QBlk.new _ _
 have HVN:=Lib.hid hV.1
 have HRN:=Lib.hid hR.1
 go_enter Tryz.func95,Tryz.ntmps95
 go_wp2_with fail
 rw [←hw1,←hg]
 clear hw1 hg
 have hown0:w1.ownsRow w1.heap.size 47 7 (.slice none 0 0) 0 (([]:List Q).flatMap Q.cells):=World.ownsRow_nil _ _ _ _
 go_loopw [7,12] (fun v7 v12 wr=>∃ (k:Nat) (L:List Q),v12=.int .i64 k∧k≤vn∧L.length=k∧wr.ownsRow w1.heap.size 47 7 v7 k (L.flatMap Q.cells)∧QOk wr v7 L∧NQ w.heap.size L∧Hid (L.map Q.bare=((v.take k).map (K.req r)).map Q.bare)∧Below w1.heap.size w1 wr) (fun _ v12 _=>vn - (intOf v12).toNat)
 case atStart=>exact ⟨0,[],rfl,Nat.zero_le _,rfl,hown0,fun q h=>(by cases h),fun q h=>(by cases h),rfl,Below.refl _ _⟩
 case round =>
  clear hown0
  obtain ⟨k,L,rfl,hk,hLk,hown,hok,hnq,hLM,hbr⟩:=hrel
  by_cases hlt:k < vn
  ·obtain ⟨adv,i,hVa,hvi,ci⟩:=(hV.below (bel b1 hbr)).at_ hlt
   obtain ⟨j,rfl⟩:∃ j:Nat,i=(j:Int):=⟨i.toNat,by have:=(hv i (List.mem_of_getElem? hvi)).1;omega⟩
   have hjn:j < n:=by have:=(hv _ (List.mem_of_getElem? hvi)).2;have:=HRN.out;omega
   have j0:(0:Int)≤(j:Int):=by omega
   have j1:(j:Int) < (n:Int):=by omega
   have k0:(0:Int)≤(k:Int):=by omega
   have k1:(k:Int) < (vn:Int):=by omega
   obtain ⟨adq,q,hBa,hq,hW,c0,c1,c2,c3,c4,c5,c6⟩:=(hR.below (bel b1 hbr)).at_ hjn
   have hqn:=hrn q (List.mem_of_getElem? hq)
   rw [hVa,hBa]
   go_wp2_with fail
   refine (copied_any q wr hW hqn).mono ?_
   rintro e w2 ⟨⟨A',c',rfl,hW2,hF2⟩,b2⟩
   obtain ⟨g2,hg2⟩:∃ g2,g2=w2.heap.size:=⟨_,rfl⟩
   obtain ⟨w3,hw3⟩:∃ w3:World,w3=w2.alloc (.cells #[.int .i64 q.node,.int .i64 q.room,.int .i64 q.kilos,.int .i64 q.service,.int .i64 q.frm,.int .i64 q.by_,.slice A' q.n c'] 47):=⟨_,rfl⟩
   have b3:Below w2.heap.size w2 w3:=by rw [hw3];exact (Below.refl _ _).alloc (Nat.le_refl _) _
   have hB3:w3.heap[g2]? = some (.cells #[.int .i64 q.node,.int .i64 q.room,.int .i64 q.kilos,.int .i64 q.service,.int .i64 q.frm,.int .i64 q.by_,.slice A' q.n c'] 47 (0,0)):=by rw [hw3,hg2];exact heap_alloc_new _ _
   have hoff:OffRow A' q.n u7:=fun h0 ad e e2=>by
    have h1:=hF2 h0 ad e
    have h2:=(hown.lt _ e2).2
    omega
   have hnq6:NQ w.heap.size (L ++ [(⟨q.node,q.room,q.kilos,q.service,q.frm,q.by_,A',q.n,c',q.l⟩:Q)]):=hnq.snoc (fun h0 ad e=>by have h1:=hF2 h0 ad e;have h2:=b1.size;have h3:=hbr.size;omega)
   have b23:=bel b2 b3
   have hown3:=own_below hown b23
   have hok3:=hok.below b23
   have hW3:=hW2.below b3
   have hb3:=bel hbr b23
   have hbs:=hb3.size
   have hk9:k≤1000000:=by omega
   have HNX:=Lib.hid (show (L ++ [(⟨q.node,q.room,q.kilos,q.service,q.frm,q.by_,A',q.n,c',q.l⟩:Q)]).map Q.bare=((v.take (k + 1)).map (K.req r)).map Q.bare by
    rw [take_snoc hvi,List.map_append,List.map_append,List.map_append,hLM.out,List.map_singleton,List.map_singleton,List.map_singleton,K.req_at hq]
    rfl)
   clear c0 c1 c2 c3 c4 c5 c6 ci hvi hq hW hW2 hF2 hown hok hLM hbr b2 b3 b23 hVa hBa
   go_wp2_with (first
    | (at_builtin;rw [←hw3,←hg2];refine app_req rfl _ _ rfl w1.heap.size _ k L rfl hown3 g2 ⟨q.node,q.room,q.kilos,q.service,q.frm,q.by_,A',q.n,c',q.l⟩ rfl hB3 hk9 hbs ?_;intro v6 w6 hown6 hgrow6 hat6)
    | fail)
   have hok6:=hok3.snoc (q:=⟨q.node,q.room,q.kilos,q.service,q.frm,q.by_,A',q.n,c',q.l⟩) hW3 hoff hgrow6 hat6
   have hb6:Below w1.heap.size w1 w6:=below_own2 hb3 hgrow6 (fun g e=>(hown3.lt g e).1)
   clear hok3 hown3 hgrow6 hat6 hB3 hw3
   go_roundw
   case rel=>(go_light;exact ⟨k + 1,L ++ [(⟨q.node,q.room,q.kilos,q.service,q.frm,q.by_,A',q.n,c',q.l⟩:Q)],by go_num,hlt,by rw [List.length_append,hLk];rfl,hown6,hok6,hnq6,HNX.out,hb6⟩)
   case measure=>(go_light;simp [intOf];omega)
  ·have hd:decide ((k:Int) < (vn:Int))=false:=by simp;omega
   have hd2:decide (k < vn)=false:=by simp;omega
   obtain ⟨c0,c1,c2,c3,c4,c5,c6⟩:=(hB1.below hbr).cells
   obtain rfl:k=vn:=by omega
   go_wp2_with fail
   refine (copied_any x wr (hX.below (bel b1 hbr)) hxn).mono ?_
   rintro e w2 ⟨⟨A',c',rfl,hW2,hF2⟩,b2⟩
   obtain ⟨g2,hg2⟩:∃ g2,g2=w2.heap.size:=⟨_,rfl⟩
   obtain ⟨w3,hw3⟩:∃ w3:World,w3=w2.alloc (.cells #[.int .i64 x.node,.int .i64 x.room,.int .i64 x.kilos,.int .i64 x.service,.int .i64 x.frm,.int .i64 x.by_,.slice A' x.n c'] 47):=⟨_,rfl⟩
   have b3:Below w2.heap.size w2 w3:=by rw [hw3];exact (Below.refl _ _).alloc (Nat.le_refl _) _
   have hB3:w3.heap[g2]? = some (.cells #[.int .i64 x.node,.int .i64 x.room,.int .i64 x.kilos,.int .i64 x.service,.int .i64 x.frm,.int .i64 x.by_,.slice A' x.n c'] 47 (0,0)):=by rw [hw3,hg2];exact heap_alloc_new _ _
   have hoff:OffRow A' x.n u7:=fun h0 ad e e2=>by
    have h1:=hF2 h0 ad e
    have h2:=(hown.lt _ e2).2
    omega
   have hnq6:NQ w.heap.size (L ++ [(⟨x.node,x.room,x.kilos,x.service,x.frm,x.by_,A',x.n,c',x.l⟩:Q)]):=hnq.snoc (fun h0 ad e=>by have h1:=hF2 h0 ad e;have h2:=b1.size;have h3:=hbr.size;omega)
   have b23:=bel b2 b3
   have hown3:=own_below hown b23
   have hok3:=hok.below b23
   have hW3:=hW2.below b3
   have hb3:=bel hbr b23
   have hbs:=hb3.size
   have hk9:k≤1000000:=by omega
   have HNX:=Lib.hid (show (L ++ [(⟨x.node,x.room,x.kilos,x.service,x.frm,x.by_,A',x.n,c',x.l⟩:Q)]).map Q.bare=(K.pick33 r v x).map Q.bare by
    unfold K.pick33
    rw [List.map_append,List.map_append,hLM.out,List.take_of_length_le (by have:=HVN.out;omega)]
    rfl)
   clear c0 c1 c2 c3 c4 c5 c6 hW2 hF2 hown hok hLM hbr b2 b3 b23 hd hd2
   go_wp2_with (first
    | (at_builtin;rw [←hw3,←hg2];refine app_req rfl _ _ rfl w1.heap.size _ k L rfl hown3 g2 ⟨x.node,x.room,x.kilos,x.service,x.frm,x.by_,A',x.n,c',x.l⟩ rfl hB3 hk9 hbs ?_;intro v6 w6 hown6 hgrow6 hat6)
    | fail)
   have hok6:=hok3.snoc (q:=⟨x.node,x.room,x.kilos,x.service,x.frm,x.by_,A',x.n,c',x.l⟩) hW3 hoff hgrow6 hat6
   have hb6:Below w1.heap.size w1 w6:=below_own2 hb3 hgrow6 (fun g e=>(hown3.lt g e).1)
   have hcap:=hown6
   obtain ⟨A9,c9,rfl,hRd,hF9⟩:=own_form hown6
   clear hok3 hown3 hgrow6 hat6 hB3 hw3
   go_wp2_with fail
   go_ret
   exact ⟨⟨A9,c9,_,rfl,⟨by rw [List.length_append,hLk];rfl,by rw [reqCells_flat];exact hRd,fun q hq=>(hok6 q hq).1⟩,HNX.out,own_cap33 hcap,fun ad e=>Nat.le_trans b1.size (hF9 _ (by rw [e];rfl)).1,hnq6⟩,bel b1 hb6⟩
def upTo (n k:Nat):List Int:=K.iota k ++ List.replicate (n - k) 0
theorem upTo_zero (n:Nat):upTo n 0=List.replicate n 0:=by simp [upTo,K.iota]
theorem upTo_all (n:Nat):upTo n n=K.iota n:=by simp [upTo]
theorem upTo_len {n k:Nat} (h:k≤n):(upTo n k).length=n:=by simp [upTo,K.iota];omega
theorem upTo_set {n k:Nat} (h:k < n):(upTo n k).set k (k:Int)=upTo n (k + 1):=by
 have h1:(K.iota k).length=k:=by simp [K.iota]
 unfold upTo
 rw [List.set_append_right _ _ (by omega),h1,Nat.sub_self,show n - k=(n - (k + 1)) + 1 by omega,List.replicate_succ,List.set_cons_zero]
 unfold K.iota
 rw [List.range_succ,List.map_append,List.append_assoc]
 rfl
set_option maxRecDepth 100000 in
set_option maxHeartbeats 4000000 in
theorem numbers_any (n:Nat) (w:World) (hn:n≤1000):Calls Tryz.prog 96 #[.int .i64 n] w fun e w'=>(∃ A c,e=.returned (.slice A n c)∧Ints w' A n (K.iota n))∧Below w.heap.size w w':=by
 have hmk:=make_ints n (by omega)
 obtain ⟨h,hh⟩:∃ h,h=w.heap.size:=⟨_,rfl⟩
 obtain ⟨w1,hw1⟩:∃ w1:World,w1=w.alloc (.cells (intCells (List.replicate n 0)).toArray 3):=⟨_,rfl⟩
 have b1:Below w.heap.size w w1:=by rw [hw1];exact (Below.refl _ _).alloc (Nat.le_refl _) _
 have hI1:IBlk w1 h (upTo n 0):=by rw [hw1,hh,upTo_zero];exact heap_alloc_new _ _
 have hwh:w.heap.size≤h:=by omega
 go_enter Tryz.func96,Tryz.ntmps96
 go_wp2_with fail
 rw [←hw1,←hh]
 clear hw1 hh hmk
 go_loopw [9] (fun v9 wr=>∃ k:Nat,v9=.int .i64 k∧k≤n∧IBlk wr h (upTo n k)∧Below w.heap.size w wr) (fun v9 _=>n - (intOf v9).toNat)
 case atStart=>exact ⟨0,rfl,Nat.zero_le _,hI1,b1⟩
 case round =>
  clear hI1 b1
  obtain ⟨k,rfl,hk,hI,hbr⟩:=hrel
  by_cases hlt:k < n
  ·have k0:(0:Int)≤(k:Int):=by omega
   have k1:(k:Int) < (n:Int):=by omega
   obtain ⟨x,hx⟩:∃ x,(upTo n k)[k]? = some x:=⟨_,List.getElem?_eq_getElem (by rw [upTo_len hk];exact hlt)⟩
   have c0:=hI.cell hx
   have f0:=hI.free k
   have hI2:IBlk (wr.setCell ⟨h,k,none⟩ (.int .i64 (k:Int))) h (upTo n (k + 1)):=by rw [←upTo_set hlt];exact hI.set k k
   have hb2:Below w.heap.size w (wr.setCell ⟨h,k,none⟩ (.int .i64 (k:Int))):=hbr.setCell (p:=⟨h,k,none⟩) hwh _
   go_wp2_with fail
   go_roundw
   case rel=>(go_light;exact ⟨k + 1,by go_num,hlt,hI2,hb2⟩)
   case measure=>(go_light;simp [intOf];omega)
  ·obtain rfl:k=n:=by omega
   have hd:decide ((k:Int) < (k:Int))=false:=by simp
   have hd2:decide (k < k)=false:=by simp
   have hz:=hI.ints
   rw [upTo_len (Nat.le_refl _),upTo_all] at hz
   go_wp2_with fail
   go_ret
   exact ⟨⟨_,_,rfl,hz⟩,hbr⟩
set_option maxRecDepth 100000 in
set_option maxHeartbeats 4000000 in
theorem fits94_any (nd:Int) (A:Option Addr) (n c:Nat) (x:Q) (w:World) (hX:Wins w x.A x.n x.l) (hxn:x.n≤1000000000) :
  Calls Tryz.prog 94 #[.agg #[.int .i64 nd,.slice A n c],.agg #[.int .i64 x.node,.int .i64 x.room,.int .i64 x.kilos,.int .i64 x.service,.int .i64 x.frm,.int .i64 x.by_,.slice x.A x.n x.c]] w fun e w'=>e=.returned (.bool (K.fits33 nd x))∧Below w.heap.size w w':=by
 obtain ⟨g,hg⟩:∃ g,g=w.heap.size:=⟨_,rfl⟩
 obtain ⟨w0,hw0⟩:∃ w0:World,w0=w.alloc (.cells #[.int .i64 nd,.slice A n c] 24):=⟨_,rfl⟩
 have b0:Below w.heap.size w w0:=by rw [hw0];exact (Below.refl _ _).alloc (Nat.le_refl _) _
 have z0:w0.heap.size=g + 1:=by rw [hw0,hg];exact World.size_alloc _ _
 have hN0:Net w0 g nd A n c:=by rw [hw0,hg];exact Net.new _ _ _ _ _
 obtain ⟨w1,hw1⟩:∃ w1:World,w1=w0.alloc (.cells #[.int .i64 x.node,.int .i64 x.room,.int .i64 x.kilos,.int .i64 x.service,.int .i64 x.frm,.int .i64 x.by_,.slice x.A x.n x.c] 47):=⟨_,rfl⟩
 have b1:Below w0.heap.size w0 w1:=by rw [hw1];exact (Below.refl _ _).alloc (Nat.le_refl _) _
 have hB1:QBlk w1 (g + 1) x:=by rw [hw1,←z0];exact QBlk.new _ _
 have hN1:=hN0.below b1
 have hb1:=bel b0 b1
 obtain ⟨c0,c1,c2,c3,c4,c5,c6⟩:=hB1.cells
 have CR:=tright_any x w1 (hX.below hb1) hxn
 obtain ⟨z,hz⟩:∃ z,z=T.right x:=⟨_,rfl⟩
 rw [←hz] at CR
 have HZ:=Lib.hid hz
 go_enter Tryz.func94,Tryz.ntmps94
 rw [hw1,hw0,hg] at c0 c1 c2 c3 c4 c5 c6
 go_wp2_with fail
 rw [←hw0,←hw1]
 refine CR.mono ?_
 rintro e w2 ⟨rfl,b2⟩
 clear hz CR c0 c1 c2 c3 c4 c5 c6 hw0 hw1
 have hN2:=hN1.below b2
 have hB2:=hB1.below b2
 have p0:=hN2.c0
 have q0:=hB2.cells.1
 rw [hg] at p0 q0
 have hb2:=bel hb1 b2
 cases z
 ·go_wp2_with fail
  go_ret
  exact ⟨by unfold K.fits33;rw [←HZ.out];rfl,hb2⟩
 ·go_wp2_with fail
  go_ret
  exact ⟨by unfold K.fits33;rw [←HZ.out];rfl,hb2⟩
def BkBlk (w:World) (g:Nat) (x:Cs):Prop:=w.heap[g]? = some (.cells #[.int .i64 x.nd,.slice x.A x.n x.c,.slice x.SA x.sn x.sc,.slice x.B x.m x.d] 44 (0,0))
theorem BkBlk.below {w w':World} {g:Nat} {x:Cs} (h:BkBlk w g x) (hb:Below w.heap.size w w'):BkBlk w' g x:=blk_below hb h
theorem BkBlk.new (w:World) (x:Cs):BkBlk (w.alloc (.cells #[.int .i64 x.nd,.slice x.A x.n x.c,.slice x.SA x.sn x.sc,.slice x.B x.m x.d] 44)) w.heap.size x:=heap_alloc_new w _
def BQ (g:Nat) (x:Cs) (q:Q) (w':World):Prop:=(fun w':World=>w'.cell? ⟨g,0,none⟩=some (.int .i64 x.nd)∧w'.cell? ⟨g,1,none⟩=some (.slice x.A x.n x.c)∧w'.cell? ⟨g,2,none⟩=some (.slice x.SA x.sn x.sc)∧w'.cell? ⟨g,3,none⟩=some (.slice x.B x.m x.d) ∧
 w'.cell? ⟨g + 1,0,none⟩=some (.int .i64 q.node)∧w'.cell? ⟨g + 1,1,none⟩=some (.int .i64 q.room)∧w'.cell? ⟨g + 1,2,none⟩=some (.int .i64 q.kilos)∧w'.cell? ⟨g + 1,3,none⟩=some (.int .i64 q.service)∧w'.cell? ⟨g + 1,4,none⟩=some (.int .i64 q.frm)∧w'.cell? ⟨g + 1,5,none⟩=some (.int .i64 q.by_)∧w'.cell? ⟨g + 1,6,none⟩=some (.slice q.A q.n q.c)) w'
theorem BQ.mk' {w:World} {g:Nat} {x:Cs} {q:Q} (h1:BkBlk w g x) (h2:QBlk w (g + 1) q):BQ g x q w :=
 ⟨blk_cell h1 0 _ rfl,blk_cell h1 1 _ rfl,blk_cell h1 2 _ rfl,blk_cell h1 3 _ rfl,h2.cells⟩
structure Ok33 (w:World) (x:Cs) (q:Q):Prop where
 cs:CsAt w x
 req:Wins w q.A q.n q.l
 m:x.m≤100
 qs:∀ p ∈ x.r,p.n≤1000000
 q:q.n≤1000000
theorem Ok33.below {w w':World} {x:Cs} {q:Q} (h:Ok33 w x q) (hb:Below w.heap.size w w'):Ok33 w' x q:=⟨h.cs.below hb,h.req.below hb,h.m,h.qs,h.q⟩
theorem Ok33.len {w:World} {x:Cs} {q:Q} (h:Ok33 w x q) (v:List Int):∀ p ∈ K.pick33 x.r v q,p.l.length≤1000000:=fun p hp=>by
 unfold K.pick33 at hp
 rcases List.mem_append.1 hp with hp | hp
 ·obtain ⟨i,-,rfl⟩:=List.mem_map.1 hp
  unfold K.req
  cases hi:x.r[i.toNat]? with
  | none=>exact Nat.zero_le _
  | some p =>
   have hm:=List.mem_of_getElem? hi
   have h1:=(h.cs.reqs.2.2 p hm).1
   have h2:=h.qs p hm
   show p.l.length≤_
   omega
 ·rw [List.mem_singleton.1 hp]
  have h1:=h.req.1
  have h2:=h.q
  omega
def Cs.with_ (x:Cs) (A:Option Addr) (m k:Nat) (L:List Q):Cs:=⟨x.nd,x.A,x.n,x.c,x.l,x.SA,x.sn,x.sc,x.ss,A,m,k,L⟩
theorem Ok33.case {w w':World} {x:Cs} {q:Q} (h:Ok33 w x q) (hb:Below w.heap.size w w') {A:Option Addr} {m k:Nat} {L:List Q} {v:List Int} (hL:Reqs w' A m L) (e:L.map Q.bare=(K.pick33 x.r v q).map Q.bare) (hm:m≤1000000):CsAt w' (x.with_ A m k L) :=
 ⟨(h.cs.below hb).net,(h.cs.below hb).shifts,hL,h.cs.b1,h.cs.b2,h.cs.b3,(show m≤1000000000 by omega),fun p hp=>by have:=same_n hL e (h.len v) p hp;omega⟩
set_option maxRecDepth 100000 in
set_option maxHeartbeats 8000000 in
theorem blocks151_any (x:Cs) (q:Q) (V:Option Addr) (vn vc:Nat) (v:List Int) (w:World) (hx:Ok33 w x q) (hV:Ints w V vn v) (hv:∀ i ∈ v,0≤i∧i < (x.r.length:Int)) (hvn:vn≤1000) :
  Calls Tryz.prog 151 #[.agg #[.int .i64 x.nd,.slice x.A x.n x.c,.slice x.SA x.sn x.sc,.slice x.B x.m x.d],.slice V vn vc,.agg #[.int .i64 q.node,.int .i64 q.room,.int .i64 q.kilos,.int .i64 q.service,.int .i64 q.frm,.int .i64 q.by_,.slice q.A q.n q.c]] w fun e w'=>e=.returned (.bool (K.blocks33 x.nd x.l x.ss x.r q v))∧Below w.heap.size w w':=by
 obtain ⟨g,hg⟩:∃ g,g=w.heap.size:=⟨_,rfl⟩
 obtain ⟨w0,hw0⟩:∃ w0:World,w0=w.alloc (.cells #[.int .i64 x.nd,.slice x.A x.n x.c,.slice x.SA x.sn x.sc,.slice x.B x.m x.d] 44):=⟨_,rfl⟩
 have b0:Below w.heap.size w w0:=by rw [hw0];exact (Below.refl _ _).alloc (Nat.le_refl _) _
 have z0:w0.heap.size=g + 1:=by rw [hw0,hg];exact World.size_alloc _ _
 have hN0:BkBlk w0 g x:=by rw [hw0,hg];exact BkBlk.new _ _
 obtain ⟨wb,hw1⟩:∃ wb:World,wb=w0.alloc (.cells #[.int .i64 q.node,.int .i64 q.room,.int .i64 q.kilos,.int .i64 q.service,.int .i64 q.frm,.int .i64 q.by_,.slice q.A q.n q.c] 47):=⟨_,rfl⟩
 have b1:Below w0.heap.size w0 wb:=by rw [hw1];exact (Below.refl _ _).alloc (Nat.le_refl _) _
 have hB1:QBlk wb (g + 1) q:=by rw [hw1,←z0];exact QBlk.new _ _
 have hN1:=hN0.below b1
 have hb1:=bel b0 b1
 have hmk:∀ w',Below wb.heap.size wb w'→BQ g x q w':=fun w' h=>BQ.mk' (hN1.below h) (hB1.below h)
 have hbd:Below wb.heap.size wb wb.drew:=(Below.refl _ _).drew
 have S0:=hmk _ (Below.refl _ _)
 have S0d:=hmk _ hbd
 have hxb:=hx.below hb1
 have hVb:=hV.below hb1
 obtain ⟨pz,hpz⟩:∃ pz,pz=(K.plan x.nd x.l x.ss (K.pick33 x.r v q)).2:=⟨_,rfl⟩
 have HX:=Lib.hid (show K.blocks33 x.nd x.l x.ss x.r q v=(pz == 4) by unfold K.blocks33;rw [←hpz])
 have HPL:=Lib.hid (show ∀ L:List Q,L.map Q.bare=(K.pick33 x.r v q).map Q.bare→(K.plan x.nd x.l x.ss L).2=pz from fun L e=>by rw [hpz,K.plan_same e rfl])
 have hm9:=hx.m
 clear hpz
 go_enter Tryz.func151,Tryz.ntmps151
 go_upto_region 1 with fail
 rw [←hw0,←hw1]
 clear hw0 hw1 z0 hN0 b0 b1 hB1 hN1
 unfold BQ at S0 S0d hmk
 subst hg
 go_region_held3 (fun w':World=>w'.cell? ⟨w.heap.size,0,none⟩=some (.int .i64 x.nd)∧w'.cell? ⟨w.heap.size,1,none⟩=some (.slice x.A x.n x.c)∧w'.cell? ⟨w.heap.size,2,none⟩=some (.slice x.SA x.sn x.sc)∧w'.cell? ⟨w.heap.size,3,none⟩=some (.slice x.B x.m x.d)∧w'.cell? ⟨w.heap.size + 1,0,none⟩=some (.int .i64 q.node)∧w'.cell? ⟨w.heap.size + 1,1,none⟩=some (.int .i64 q.room)∧w'.cell? ⟨w.heap.size + 1,2,none⟩=some (.int .i64 q.kilos)∧w'.cell? ⟨w.heap.size + 1,3,none⟩=some (.int .i64 q.service)∧w'.cell? ⟨w.heap.size + 1,4,none⟩=some (.int .i64 q.frm)∧w'.cell? ⟨w.heap.size + 1,5,none⟩=some (.int .i64 q.by_)∧w'.cell? ⟨w.heap.size + 1,6,none⟩=some (.slice q.A q.n q.c))
  (first | with_reducible exact S2 | with_reducible exact S1 | with_reducible exact S0d | with_reducible exact S0 | fail)
  (first
   | (go_at_call 95;refine (with_any x.B x.m x.d x.r V vn vc v q _ (hxb.below hbd).cs.reqs (hVb.below hbd) hv (hxb.below hbd).req hx.qs hx.q hvn).mono ?_;rintro e wc ⟨⟨A1,k1,L1,rfl,hL1,hLb,hk1,-,-⟩,bc⟩;have bc2:=bel hbd bc;have S1:=hmk _ bc2)
   | (go_at_call 20;refine (plan32_any (x.with_ A1 (vn + 1) k1 L1) _ (hxb.case bc2 hL1 hLb (by omega))).mono ?_;rintro e wd ⟨⟨PA,pn,pc,pl,rfl,-,-,-⟩,bd⟩;have bd2:=bel bc2 bd;have S2:=hmk _ bd2)
   | fail)
 have hz:(K.plan (x.with_ A1 (vn + 1) k1 L1).nd (x.with_ A1 (vn + 1) k1 L1).l (x.with_ A1 (vn + 1) k1 L1).ss (x.with_ A1 (vn + 1) k1 L1).r).2=pz:=HPL.out L1 hLb
 rw [hz]
 go_wp2_with fail
 go_ret
 exact ⟨by rw [HX.out];rfl,bel hb1 bd2⟩
theorem Rd.sets {w:World} {size n:Nat} {A:Option Addr} {xs:List Value} (h:Rd w size A n xs) (l:List (Addr × Value)) (hl:0 < n→∀ ad,A=some ad→∀ p ∈ l,p.1.block ≠ ad.block):Rd (Sets w l) size A n xs :=
 ⟨h.1,fun hn=>by
  obtain ⟨ad,e,hc⟩:=h.2 hn
  exact ⟨ad,e,fun j u hu=>(World.cell?_of_block (Sets.other l w _ (by rw [add_block];exact hl hn ad e))).trans (hc j u hu)⟩⟩
theorem own_sets {base:Nat} {e:TypeId} {size n:Nat} {v:Value} {xs:List Value}:∀ (l:List (Addr × Value)) {w:World},w.ownsRow base e size v n xs→(∀ p ∈ l,p.1.block < base)→(Sets w l).ownsRow base e size v n xs
 | [],_,h,_=>h
 | p :: l,_,h,hl=>own_sets l (ownsRow_setCell_below h (hl p (List.mem_cons_self ..)) _) fun q hq=>hl q (List.mem_cons_of_mem _ hq)
theorem shift_one (x:S):∀ u ∈ S.cells x,u.oneCell'=true:=by
 intro u hu
 simp only [S.cells,List.mem_cons,List.not_mem_nil,or_false] at hu
 rcases hu with rfl | rfl | rfl | rfl | rfl | rfl <;> rfl
def SOk (w:World) (v:Value) (L:List S):Prop:=∀ s ∈ L,Ints w s.A s.n s.l∧OffRow s.A s.n v
theorem SOk.below {w w':World} {v:Value} {L:List S} (h:SOk w v L) (hb:Below w.heap.size w w'):SOk w' v L:=fun q hq=>⟨(h q hq).1.below hb,(h q hq).2⟩
def S.rooms (s:S) (A:Option Addr) (c:Nat):S:=⟨s.day,s.depot,s.start,s.end_,s.tare,A,s.n,c,s.l⟩
theorem set_cells {L:List S} {k:Nat} {s:S} (hk:L[k]? = some s) (A:Option Addr) (c:Nat):(L.flatMap S.cells).set (k * 6 + 5) (.slice A s.n c)=(L.set k (s.rooms A c)).flatMap S.cells:=by
 induction L generalizing k with
 | nil=>cases hk
 | cons x L ih =>
  cases k with
  | zero =>
   rw [List.getElem?_cons_zero] at hk
   injection hk with hk
   subst hk
   rfl
  | succ k =>
   rw [List.getElem?_cons_succ] at hk
   rw [List.set_cons_succ,List.flatMap_cons,List.flatMap_cons,←ih hk,show (k + 1) * 6 + 5=x.cells.length + (k * 6 + 5) by show _=6 + _;omega,List.set_append_right _ _ (by omega),Nat.add_sub_cancel_left]
theorem bare_set {L:List S} {k:Nat} {s:S} (hk:L[k]? = some s) (A:Option Addr) (c:Nat):(L.set k (s.rooms A c)).map S.bare=L.map S.bare:=by
 rw [List.map_set]
 apply List.ext_getElem?
 intro i
 rw [List.getElem?_set]
 by_cases e:k=i
 ·subst e
  have hl:=(List.getElem?_eq_some_iff.1 hk).1
  rw [if_pos rfl,List.length_map,if_pos hl,List.getElem?_map,hk]
  rfl
 ·rw [if_neg e]
theorem Ints.sets {w:World} {A:Option Addr} {n:Nat} {l:List Int} (h:Ints w A n l) (m:List (Addr × Value)) (hl:0 < n→∀ ad,A=some ad→∀ p ∈ m,p.1.block ≠ ad.block):Ints (Sets w m) A n l:=⟨h.1,h.2.sets m hl⟩
theorem set4_blk {w:World} {g:Nat} {x0 x1 x2 x3:Value} {t:TypeId} (h:w.heap[g]? = some (.cells #[x0,x1,x2,x3] t (0,0))) (y0 y1 y2 y3:Value):(Sets w [(⟨g,0,none⟩,y0),(⟨g,1,none⟩,y1),(⟨g,2,none⟩,y2),(⟨g,3,none⟩,y3)]).heap[g]? = some (.cells #[y0,y1,y2,y3] t (0,0)):=by
 have c0:=blk_set h 0 y0
 have c1:=blk_set c0 1 y1
 have c2:=blk_set c1 2 y2
 have c3:=blk_set c2 3 y3
 simp only [List.setIfInBounds_toArray,List.set_cons_zero,List.set_cons_succ] at c3
 exact c3
theorem set4_in {g:Nat} {y0 y1 y2 y3:Value} {p:Addr × Value} (h:p ∈ [((⟨g,0,none⟩:Addr),y0),(⟨g,1,none⟩,y1),(⟨g,2,none⟩,y2),(⟨g,3,none⟩,y3)]):p.1.block=g:=by
 simp only [List.mem_cons,List.not_mem_nil,or_false] at h
 rcases h with rfl | rfl | rfl | rfl <;> rfl
def NS (b:Nat) (ss L:List S) (k:Nat):Prop:=∀ i s,L[i]? = some s→(i < k→0 < s.n→∀ ad,s.A=some ad→b≤ad.block)∧(k≤i→ss[i]? = some s)
theorem flat_at {L:List S} {k:Nat} {s:S} (hk:L[k]? = some s) (j:Nat) (hj:j < 6):(L.flatMap S.cells)[k * 6 + j]? = s.cells[j]?:=flat_get S.cells 6 (fun _=>rfl) L k s hk j hj
set_option maxRecDepth 100000 in
set_option maxHeartbeats 16000000 in
theorem book_any (x:Cs) (A:Option Addr) (m1 d1:Nat) (w:World) (hR:Roads w x.A x.n x.l) (hS:Shifts w x.SA x.sn x.ss) (hn:x.n≤1000000) (hsn:x.sn≤1000000) (hsr:∀ s ∈ x.ss,s.n≤1000000) :
  Calls Tryz.prog 97 #[.agg #[.int .i64 x.nd,.slice x.A x.n x.c,.slice x.SA x.sn x.sc,.slice x.B x.m x.d],.slice A m1 d1] w fun e w'=>(∃ RA rc SA sc ss,e=.returned (.agg #[.int .i64 x.nd,.slice RA x.n rc,.slice SA x.sn sc,.slice A m1 d1])∧Roads w' RA x.n x.l∧Shifts w' SA x.sn ss∧ss.map S.bare=x.ss.map S.bare∧(0 < x.n→∀ ad,RA=some ad→w.heap.size≤ad.block)∧(∀ ad,SA=some ad→w.heap.size≤ad.block)∧∀ s ∈ ss,0 < s.n→∀ ad,s.A=some ad→w.heap.size≤ad.block)∧Below w.heap.size w w':=by
 obtain ⟨nd,RA,n,c,l,SA,sn,sc,ss,B,m,d,r⟩:=x
 dsimp only at hR hS hn hsn hsr ⊢
 clear r
 obtain ⟨w0,hw0⟩:∃ w0:World,w0=w.alloc (.cells #[.int .i64 nd,.slice RA n c,.slice SA sn sc,.slice B m d] 44):=⟨_,rfl⟩
 have b0:Below w.heap.size w w0:=by rw [hw0];exact (Below.refl _ _).alloc (Nat.le_refl _) _
 have z0:w0.heap.size=w.heap.size + 1:=by rw [hw0];exact World.size_alloc _ _
 have hN0:w0.heap[w.heap.size]? = some (.cells #[.int .i64 nd,.slice RA n c,.slice SA sn sc,.slice B m d] 44 (0,0)):=by rw [hw0];exact heap_alloc_new _ _
 obtain ⟨wb,hw1⟩:∃ wb:World,wb=w0.alloc (.cells #[.int .i64 0,.slice none 0 0,.slice none 0 0,.slice none 0 0] 44):=⟨_,rfl⟩
 have b1:Below w0.heap.size w0 wb:=by rw [hw1];exact (Below.refl _ _).alloc (Nat.le_refl _) _
 have z1:wb.heap.size=w.heap.size + 2:=by rw [hw1,World.size_alloc,z0]
 have hZ1:wb.heap[w.heap.size + 1]? = some (.cells #[.int .i64 0,.slice none 0 0,.slice none 0 0,.slice none 0 0] 44 (0,0)):=by rw [hw1,←z0];exact heap_alloc_new _ _
 have hN1:=blk_below b1 hN0
 have hb1:=bel b0 b1
 have hRb:Roads wb RA n l:=Lst.below hR hb1
 have hSb:=hS.below hb1
 have hmk:∀ w',Below wb.heap.size wb w'→(fun w':World=>w'.cell? ⟨w.heap.size,0,none⟩=some (.int .i64 nd)∧w'.cell? ⟨w.heap.size,1,none⟩=some (.slice RA n c)∧w'.cell? ⟨w.heap.size,2,none⟩=some (.slice SA sn sc)∧w'.cell? ⟨w.heap.size,3,none⟩=some (.slice B m d)) w':=fun w' h=>⟨blk_cell (blk_below h hN1) 0 _ rfl,blk_cell (blk_below h hN1) 1 _ rfl,blk_cell (blk_below h hN1) 2 _ rfl,blk_cell (blk_below h hN1) 3 _ rfl⟩
 have hbd:Below wb.heap.size wb wb.drew:=(Below.refl _ _).drew
 have hzd:wb.drew.heap.size=wb.heap.size:=rfl
 go_enter Tryz.func97,Tryz.ntmps97
 go_upto_region 1 with fail
 rw [←hw0,←hw1]
 clear hw0 hw1 z0 hN0 b0 b1
 have HSN:=Lib.hid hS.1.1
 go_cut [10] from 7 to 18 (fun v10 we=>∃ A1 k1 A2 k2 B2,v10=.slice A1 n k1∧we.heap[w.heap.size]? = some (.cells #[.int .i64 nd,.slice A1 n k1,.slice A2 sn k2,.slice A m1 d1] 44 (0,0))∧we.heap[w.heap.size + 1]? = some (.cells #[.int .i64 0,.slice none 0 0,.slice none 0 0,.slice none 0 0] 44 (0,0))∧Roads we A1 n l∧we.ownsRow B2 63 6 (.slice A2 sn k2) sn (ss.flatMap S.cells)∧SOk we (.slice A2 sn k2) ss∧(0 < n→∀ ad,A1=some ad→wb.heap.size≤ad.block∧ad.block < B2)∧wb.heap.size≤B2∧Below w.heap.size w we)
 case first =>
  obtain ⟨p0,p1,p2,p3⟩:=hmk _ hbd
  go_region_with (first
    | (go_at_call 149;refine (clone149 RA n c _ _ (hRb.below hbd).2 (flat_one _ road_one _) hn).mono ?_;rintro e wc ⟨⟨v1,rfl,hown1⟩,bc⟩;obtain ⟨A1,k1,rfl,hRd1,hF1⟩:=own_form hown1;have bc2:=bel hbd bc;obtain ⟨c0,c1,c2,c3⟩:=hmk _ bc2)
    | (go_at_call 150;refine (clone150 SA sn sc _ _ (hSb.below bc2).1.2 (flat_one _ shift_one _) hsn).mono ?_;rintro e wd ⟨⟨v2,rfl,hown2⟩,bd⟩;obtain ⟨A2,k2,rfl,-,hF2⟩:=own_form hown2;have bd2:=bel bc2 bd;have hNd:=blk_below bd2 hN1;have f0:=blk_free hNd;obtain ⟨q0,q1,q2,q3⟩:=hmk _ bd2)
    | fail)
  all_goals
   obtain ⟨we,hwe⟩:∃ we,we=Sets wd [(⟨w.heap.size,1,none⟩,.slice A1 n k1),(⟨w.heap.size,2,none⟩,.slice A2 sn k2),(⟨w.heap.size,3,none⟩,.slice A m1 d1)]:=⟨_,rfl⟩
   have hwc:wb.heap.size≤wc.heap.size:=bc2.size
   have hNe:we.heap[w.heap.size]? = some (.cells #[.int .i64 nd,.slice A1 n k1,.slice A2 sn k2,.slice A m1 d1] 44 (0,0)):=by
    rw [hwe]
    have e0:=blk_set hNd 1 (.slice A1 n k1)
    have e1:=blk_set e0 2 (.slice A2 sn k2)
    have e2:=blk_set e1 3 (.slice A m1 d1)
    simp only [List.setIfInBounds_toArray,List.set_cons_zero,List.set_cons_succ] at e2
    exact e2
   have hZe:we.heap[w.heap.size + 1]? = some (.cells #[.int .i64 0,.slice none 0 0,.slice none 0 0,.slice none 0 0] 44 (0,0)):=by
    rw [hwe]
    refine (Sets.other _ wd _ (fun p hp=>?_)).trans (blk_below bd2 hZ1)
    simp only [List.mem_cons,List.not_mem_nil,or_false] at hp
    rcases hp with rfl | rfl | rfl <;> simp
   have hRe:Roads we A1 n l:=by
    rw [hwe]
    refine ⟨hRb.1,(hRd1.below bd).sets _ (fun h0 ad e p hp=>?_)⟩
    have h9:=(hF1 ad.block (by rw [e];rfl)).1
    simp only [List.mem_cons,List.not_mem_nil,or_false] at hp
    rcases hp with rfl | rfl | rfl <;> (dsimp only;omega)
   have hOe:we.ownsRow wc.heap.size 63 6 (.slice A2 sn k2) sn (ss.flatMap S.cells):=by
    rw [hwe]
    refine own_sets _ hown2 (fun p hp=>?_)
    simp only [List.mem_cons,List.not_mem_nil,or_false] at hp
    rcases hp with rfl | rfl | rfl <;> (dsimp only;omega)
   have hbe:Below w.heap.size w we:=by
    rw [hwe]
    refine Sets.below _ _ _ (bel hb1 bd2) (fun p hp=>?_)
    simp only [List.mem_cons,List.not_mem_nil,or_false] at hp
    rcases hp with rfl | rfl | rfl <;> exact Nat.le_refl _
   have hSe:SOk we (.slice A2 sn k2) ss:=fun s hs=>by
    have h8:=(hS.2 s hs)
    refine ⟨h8.below hbe,fun h0 ad e e2=>?_⟩
    have h9:=(hF2 _ e2).1
    have h7:=h8.lt_of h0 e
    omega
   have hF1z:0 < n→∀ ad,A1=some ad→wb.heap.size≤ad.block∧ad.block < wc.heap.size:=fun h0 ad e=>hF1 ad.block (by rw [e];rfl)
   simp only [Sets] at hwe
   rw [←hwe]
   clear hwe hNd f0 q0 q1 q2 q3 p0 p1 p2 p3 hown2 hown1 hRd1 hF1 c0 c1 c2 c3
   go_wp2_with fail
   go_meet
   exact ⟨A1,k1,A2,k2,wc.heap.size,rfl,hNe,hZe,hRe,hOe,hSe,hF1z,hwc,hbe⟩
 case rest =>
  obtain ⟨A1,k1,A2,k2,B2,rfl,hNe,hZe,hRe,hOe,hSe,hF1z,hwc,hbe⟩:=hcut
  have p2:=blk_cell hNe 2 _ rfl
  have hwB:w.heap.size + 2≤B2:=by omega
  have HNS:NS wb.heap.size ss ss 0:=fun i s hs=>⟨fun h=>absurd h (Nat.not_lt_zero _),fun _=>hs⟩
  clear hmk hbd hzd hN1 hZ1 hb1 hRb hSb
  go_wp2_with fail
  clear p2
  go_loopw [22] (fun v22 wr=>∃ (k:Nat) (L:List S),v22=.int .i64 k∧k≤sn∧L.length=sn∧Hid (L.map S.bare=ss.map S.bare)∧wr.ownsRow B2 63 6 (.slice A2 sn k2) sn (L.flatMap S.cells)∧SOk wr (.slice A2 sn k2) L∧NS wb.heap.size ss L k∧(∀ s ∈ L,s.n≤1000000)∧Roads wr A1 n l∧wr.heap[w.heap.size]? = some (.cells #[.int .i64 nd,.slice A1 n k1,.slice A2 sn k2,.slice A m1 d1] 44 (0,0))∧wr.heap[w.heap.size + 1]? = some (.cells #[.int .i64 0,.slice none 0 0,.slice none 0 0,.slice none 0 0] 44 (0,0))∧Below w.heap.size w wr) (fun v22 _=>sn - (intOf v22).toNat)
  case atStart=>exact ⟨0,ss,rfl,Nat.zero_le _,HSN.out.symm,rfl,hOe,hSe,HNS,hsr,hRe,hNe,hZe,hbe⟩
  case round =>
   clear hOe hSe HNS hRe hNe hZe hbe
   obtain ⟨k,L,rfl,hk,hLl,hLb,hO,hok,hns,hln,hRr,hN,hZ,hbr⟩:=hrel
   have p0:=blk_cell hN 0 _ rfl
   have p1:=blk_cell hN 1 _ rfl
   have p2:=blk_cell hN 2 _ rfl
   have p3:=blk_cell hN 3 _ rfl
   have HLL:=Lib.hid hLl
   clear hLl
   by_cases hlt:k < sn
   ·obtain ⟨gs,cap,e,hg1,hg2⟩:=hO.form (by omega)
    injection e with e1 e2 e3
    subst e1 e3
    obtain ⟨s,hs⟩:∃ s,L[k]? = some s:=⟨_,List.getElem?_eq_getElem (by rw [HLL.out];exact hlt)⟩
    obtain ⟨hI,hoff⟩:=hok s (List.mem_of_getElem? hs)
    have hsn6:=hln s (List.mem_of_getElem? hs)
    have k0:(0:Int)≤(k:Int):=by omega
    have k1:(k:Int) < (sn:Int):=by omega
    have ce:∀ (W:World),W.ownsRow B2 63 6 (.slice (some ⟨gs,0,none⟩) sn k2) sn (L.flatMap S.cells)→∀ j (hj:j < 6),W.cell? ⟨gs,k * 6 + j,none⟩=s.cells[j]?:=fun W hW j hj=>by
     rw [hW.cellAt (k * 6 + j) (by omega),flat_at hs j hj]
    have c0:wr.cell? ⟨gs,k * 6,none⟩=some (.int .i64 s.day):=ce wr hO 0 (by decide)
    have c1:wr.cell? ⟨gs,k * 6 + 1,none⟩=some (.int .i64 s.depot):=ce wr hO 1 (by decide)
    have c2:wr.cell? ⟨gs,k * 6 + 2,none⟩=some (.int .i64 s.start):=ce wr hO 2 (by decide)
    have c3:wr.cell? ⟨gs,k * 6 + 3,none⟩=some (.int .i64 s.end_):=ce wr hO 3 (by decide)
    have c4:wr.cell? ⟨gs,k * 6 + 4,none⟩=some (.int .i64 s.tare):=ce wr hO 4 (by decide)
    have c5:wr.cell? ⟨gs,k * 6 + 5,none⟩=some (.slice s.A s.n s.c):=ce wr hO 5 (by decide)
    have HCE:=Lib.hid ce
    clear ce
    obtain ⟨w5,hw5⟩:∃ w5:World,w5=wr.alloc (.cells #[.int .i64 s.day,.int .i64 s.depot,.int .i64 s.start,.int .i64 s.end_,.int .i64 s.tare,.slice s.A s.n s.c] 63):=⟨_,rfl⟩
    obtain ⟨gx,hgx⟩:∃ gx,gx=wr.heap.size:=⟨_,rfl⟩
    have b5:Below wr.heap.size wr w5:=by rw [hw5];exact (Below.refl _ _).alloc (Nat.le_refl _) _
    have hX5:Shf w5 gx s:=by rw [hw5,hgx];exact Shf.new _ _
    have hN5:=blk_below b5 hN
    have hO5:=own_below hO b5
    have hok5:=hok.below b5
    have hI5:=hI.below b5
    have hbr5:=bel hbr b5
    have hne1:gs ≠ gx:=by omega
    have hne2:gs ≠ w.heap.size:=by omega
    have hbd5:Below w5.heap.size w5 w5.drew:=(Below.refl _ _).drew
    have hmk:∀ w',Below w5.heap.size w5 w'→(fun w':World=>w'.cell? ⟨w.heap.size,2,none⟩=some (.slice (some ⟨gs,0,none⟩) sn k2)∧w'.cell? ⟨gx,5,none⟩=some (.slice s.A s.n s.c)) w':=fun w' h=>⟨blk_cell (blk_below h hN5) 2 _ rfl,(hX5.below h).c5⟩
    have S0:=hmk _ (Below.refl _ _)
    have S0d:=hmk _ hbd5
    have hfar:∀ (W:World) (u:Value),(fun w':World=>w'.cell? ⟨w.heap.size,2,none⟩=some (.slice (some ⟨gs,0,none⟩) sn k2)∧w'.cell? ⟨gx,5,none⟩=some (.slice s.A s.n s.c)) W→(fun w':World=>w'.cell? ⟨w.heap.size,2,none⟩=some (.slice (some ⟨gs,0,none⟩) sn k2)∧w'.cell? ⟨gx,5,none⟩=some (.slice s.A s.n s.c)) (W.setCell ⟨gs,k * 6 + 5,none⟩ u):=fun W u h=>⟨(World.cell?_setCell_far W _ _ u hne2).trans h.1,(World.cell?_setCell_far W _ _ u hne1).trans h.2⟩
    have hsz5:=b5.size
    go_upto_region 5 with fail
    rw [←hw5]
    subst hgx
    clear hw5 c0 c1 c2 c3 c4 c5
    go_region_held3 (fun w':World=>w'.cell? ⟨w.heap.size,2,none⟩=some (.slice (some ⟨gs,0,none⟩) sn k2)∧w'.cell? ⟨wr.heap.size,5,none⟩=some (.slice s.A s.n s.c))
     (first | with_reducible exact S2 | with_reducible exact S1 | with_reducible exact S0d | with_reducible exact S0 | fail)
     (first
      | (go_at_call 109;refine (clone_own s.A s.n s.c s.l _ (hI5.below hbd5) hsn6).mono ?_;rintro e w6 ⟨⟨v5,rfl,hown5⟩,b6⟩;obtain ⟨A5,c5,rfl,hR5,hF5⟩:=own_form hown5;have b6r:=bel hbd5 b6;have S1:=hmk _ b6r;have hrow:=own_below hO5 b6r;have f5:=hrow.frozenAt (k * 6 + 5);have q5:w6.cell? ⟨gs,k * 6 + 5,none⟩=some (.slice s.A s.n s.c):=HCE.out w6 hrow 5 (by decide);have S2:=hfar w6 (.slice A5 s.n c5) S1)
      | fail)
    have hst:=hrow.stored (k * 6 + 5) (.slice A5 s.n c5)
    obtain ⟨w7,hw7⟩:∃ w7,w7=w6.setCell ⟨gs,k * 6 + 5,none⟩ (.slice A5 s.n c5):=⟨_,rfl⟩
    rw [←hw7] at hst
    obtain ⟨hO7,hg7⟩:=hst
    rw [set_cells hs] at hO7
    have hb6:=bel hbr5 b6r
    have hb7:Below w.heap.size w w7:=by rw [hw7];exact hb6.setCell (p:=⟨gs,k * 6 + 5,none⟩) (by dsimp only;omega) _
    have hN7:=grow_blk hg7 (blk_below b6r hN5) (fun e=>hne2 (by injection e with e;exact e.symm))
    have hZ7:=grow_blk hg7 (blk_below b6r (blk_below b5 hZ)) (fun e=>by injection e with e;omega)
    have hR7:Roads w7 A1 n l:=⟨hRr.1,by
     have h9:=((Lst.below (Lst.below hRr b5) b6r).2).sets [(⟨gs,k * 6 + 5,none⟩,.slice A5 s.n c5)] (fun h0 ad e p hp=>by
      rw [List.mem_singleton.1 hp]
      have:=(hF1z h0 ad e).2
      dsimp only
      omega)
     simp only [Sets] at h9
     rw [←hw7] at h9
     exact h9⟩
    have hgo:∀ t:S,Ints w6 t.A t.n t.l→OffRow t.A t.n (.slice (some ⟨gs,0,none⟩) sn k2)→Ints w7 t.A t.n t.l:=fun t h1 h2=>h1.grow hg7 (fun h0 ad e e2=>h2 h0 ad e e2.symm)
    have hA5:0 < s.n→∀ ad,A5=some ad→w5.heap.size≤ad.block:=fun h0 ad e=>(hF5 ad.block (by rw [e];rfl)).1
    have hI6:Ints w6 A5 s.n s.l:=⟨hI.1,hR5⟩
    have ho5:OffRow A5 s.n (.slice (some ⟨gs,0,none⟩) sn k2):=fun h0 ad e e2=>by
     have h1:=hA5 h0 ad e
     injection e2 with e2
     dsimp only at e2
     omega
    have hok7:SOk w7 (.slice (some ⟨gs,0,none⟩) sn k2) (L.set k (s.rooms A5 c5)):=fun t ht=>by
     rcases List.mem_or_eq_of_mem_set ht with ht | rfl
     ·obtain ⟨h1,h2⟩:=hok5 t ht
      exact ⟨hgo t (h1.below b6r) h2,h2⟩
     ·exact ⟨hgo (s.rooms A5 c5) hI6 ho5,ho5⟩
    have hns7:NS wb.heap.size ss (L.set k (s.rooms A5 c5)) (k + 1):=fun i t ht=>by
     rw [List.getElem?_set] at ht
     by_cases hki:k=i
     ·subst hki
      rw [if_pos rfl,if_pos (by rw [HLL.out];exact hlt)] at ht
      injection ht with ht
      subst ht
      exact ⟨fun _ h0 ad e=>(by have h1:=hA5 h0 ad e;omega),fun h=>absurd h (by omega)⟩
     ·rw [if_neg hki] at ht
      obtain ⟨h1,h2⟩:=hns i t ht
      exact ⟨fun h=>h1 (by omega),fun h=>h2 (by omega)⟩
    have hln7:∀ t ∈ L.set k (s.rooms A5 c5),t.n≤1000000:=fun t ht=>by
     rcases List.mem_or_eq_of_mem_set ht with ht | rfl
     ·exact hln t ht
     ·exact hsn6
    have HB7:=Lib.hid (show (L.set k (s.rooms A5 c5)).map S.bare=ss.map S.bare by rw [bare_set hs,hLb.out])
    have HL7:=Lib.hid (show (L.set k (s.rooms A5 c5)).length=sn by rw [List.length_set,HLL.out])
    rw [←hw7]
    clear hw7 hg7 hrow f5 q5 S1 S2 S0 S0d hmk hfar hown5 hR5 hF5 hA5 hI6 ho5 hgo hO5 hok5 hN5 hX5 hs hO hok hN hZ hRr hbr b6 b6r
    go_wp2_with fail
    go_roundw
    case rel=>(go_light;exact ⟨k + 1,L.set k (s.rooms A5 c5),by go_num,hlt,HL7.out,HB7.out,hO7,hok7,hns7,hln7,hR7,hN7,hZ7,hb7⟩)
    case measure=>(go_light;simp [intOf];omega)
   ·have d3:decide ((k:Int) < (sn:Int))=false:=by simp;omega
    have d2:decide (k < sn)=false:=by simp;omega
    have f0:=blk_free hZ
    have z0:=blk_cell hZ 0 _ rfl
    have z1:=blk_cell hZ 1 _ rfl
    have z2:=blk_cell hZ 2 _ rfl
    have z3:=blk_cell hZ 3 _ rfl
    go_wp2_with fail
    obtain ⟨M,hM⟩:∃ M:List (Addr × Value),M=[(⟨w.heap.size + 1,0,none⟩,.int .i64 nd),(⟨w.heap.size + 1,1,none⟩,.slice A1 n k1),(⟨w.heap.size + 1,2,none⟩,.slice A2 sn k2),(⟨w.heap.size + 1,3,none⟩,.slice A m1 d1)]:=⟨_,rfl⟩
    have hMb:∀ p ∈ M,p.1.block=w.heap.size + 1:=fun p hp=>by rw [hM] at hp;exact set4_in hp
    obtain ⟨wz,hwz⟩:∃ wz,wz=Sets wr M:=⟨_,rfl⟩
    have hZz:wz.heap[w.heap.size + 1]? = some (.cells #[.int .i64 nd,.slice A1 n k1,.slice A2 sn k2,.slice A m1 d1] 44 (0,0)):=by rw [hwz,hM];exact set4_blk hZ _ _ _ _
    have hbz:Below w.heap.size w wz:=by rw [hwz];exact Sets.below M wr wr (Below.refl _ _) (fun p hp=>by rw [hMb p hp];omega) |> fun h=>hbr.trans h
    have hRz:Roads wz A1 n l:=by rw [hwz];exact ⟨hRr.1,hRr.2.sets M (fun h0 ad e p hp=>by rw [hMb p hp];have:=(hF1z h0 ad e).1;omega)⟩
    obtain ⟨A9,c9,e9,hRd,hF9⟩:=own_form hO
    injection e9 with e1 e2 e3
    subst e1
    have hnw:∀ s ∈ L,0 < s.n→∀ ad,s.A=some ad→wb.heap.size≤ad.block:=fun t ht h0 ad e=>by
     obtain ⟨i,hi,e2⟩:=List.getElem_of_mem ht
     exact (hns i t (by rw [List.getElem?_eq_getElem hi,e2])).1 (by have:=HLL.out;omega) h0 ad e
    have hSz:Shifts wz A2 sn L:=by
     rw [hwz]
     refine ⟨⟨HLL.out.symm,hRd.sets M (fun h0 ad e p hp=>by rw [hMb p hp];have:=(hF9 ad.block (by rw [e];rfl)).1;omega)⟩,fun t ht=>(hok t ht).1.sets M (fun h0 ad e p hp=>by rw [hMb p hp];have:=hnw t ht h0 ad e;omega)⟩
    simp only [hM,Sets] at hwz
    rw [←hwz]
    refine bodyPost_ret_by (v:=.agg #[.int .i64 nd,.slice A1 n k1,.slice A2 sn k2,.slice A m1 d1]) (results_cell_row rfl _ wz (w.heap.size + 1) 44 _ (0,0) _ rfl hZz Tryz.underlying44 rfl (by kernel_rfl)) rfl ?_
    exact ⟨⟨A1,k1,A2,k2,L,rfl,hRz,hSz,hLb.out,fun h0 ad e=>(by have:=(hF1z h0 ad e).1;omega),fun ad e=>(by have:=(hF9 ad.block (by rw [e];rfl)).1;omega),fun t ht h0 ad e=>(by have:=hnw t ht h0 ad e;omega)⟩,hbz⟩
end Go.Proofs.YtippdjmpkafifaaGreat
