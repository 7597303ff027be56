import Derived.Test.YtippdjmpkafifaaGreatCV18
namespace Go.Proofs.YtippdjmpkafifaaGreat
open Go.RowKit
namespace Vt
theorem Tryz.info3:(Tryz.prog.info? 3).map (fun i=>(i.zero,i.size,i.bytes))=some (some (.int .i64 0),1,8):=by kernel_rfl
theorem Tryz.info4:(Tryz.prog.info? 4).map (fun i=>(i.zero,i.size,i.bytes))=some (some (.bool false),1,1):=by kernel_rfl
theorem Tryz.info192:(Tryz.prog.info? 192).map (fun i=>(i.zero,i.size,i.bytes))=some (some (.agg #[.int .i64 0,.int .i64 0,.int .i64 0,.int .i64 0]),4,32):=by kernel_rfl
theorem eql140 (a:Option Addr) (l c:Nat) (w:World):(binOp .eql 140 (.slice a l c) (.slice none 0 0)).run Tryz.prog w=.ok (.bool a.isNone) w:=Go.run_eql_slice_nil w 140 192 a l c Tryz.underlying140
theorem eql48 (a:Option Addr) (l c:Nat) (w:World):(binOp .eql 48 (.slice a l c) (.slice none 0 0)).run Tryz.prog w=.ok (.bool a.isNone) w:=Go.run_eql_slice_nil w 48 3 a l c Tryz.underlying48
theorem itemCells_one (l:List It):∀ u ∈ itemCells l,u.oneCell'=true:=by
 intro u hu
 obtain ⟨x,_,h⟩:=List.mem_flatMap.1 hu
 simp [It.cells] at h
 rcases h with rfl | rfl | rfl | rfl <;> rfl
theorem own_items {w:World} {base:Nat} {v:Value} {n:Nat} {l:List It} (h:w.ownsRow base 192 4 v n (itemCells l)) (hn:n=l.length):∃ A c,v=.slice A n c∧Items w A n l:=by
 obtain ⟨A,c,e,hr,_⟩:=own_form h
 exact ⟨A,c,e,hn,hr⟩
theorem app_int {ops:Array Oper} {rest:List Oper} {o:Oper} {a:Act} {Q:Exit→Act→World→Prop} {w:World} (hgd:o.guard=none) (s x:Operand)
  (ho:o.op=.call { callee:=.builtin .append,args:=#[s,x],argTypes:=#[48,48] })
  (base:Nat) (v:Value) (n:Nat) (l:List Int) (hs:a.eval s=v) (hown:w.ownsRow base 3 1 v n (intCells l)) (g:Nat) (p:Int) (hx:a.eval x=.slice (some ⟨g,0,none⟩) 1 1)
  (hg:w.heap[g]? = some (.cells #[.int .i64 p] 3 (0,0))) (hn:n≤1000000) (hbase:base≤w.heap.size)
  (h:∀ v' w',w'.ownsRow base 3 1 v' (n + 1) (intCells (l ++ [p]))→w.grownBy w' v.ownBlock→(v'.ownBlock=v.ownBlock∨v'.ownBlock=some w.heap.size)→wpList Tryz.prog ops Q rest (a.put o.dst v') w') :
  wpList Tryz.prog ops Q (o :: rest) a w:=by
 obtain ⟨i0,hi,hz0,hz1,hz2⟩:=info_parts Tryz.info3
 refine wpList_append_own_at w hgd s x 48 ho base 3 i0 (.int .i64 0) 1 8 Tryz.underlying48 hi hz0 hz1 hz2 rfl (by decide) v n (intCells l) hs hown ⟨g,0,none⟩ 1 1 [.int .i64 p] hx rfl ?_ ?_ ?_ ?_ hbase ?_
 ·intro j u hu
  rw [add_zero_block]
  exact blk_cell hg j u (by simpa using hu)
 ·intro u hu
  simp at hu
  subst hu;rfl
 ·simp only [maxLen];omega
 ·omega
 ·intro v' w' h2 h3 _ h5
  exact h v' w' (by rw [intCells_app];exact h2) h3 h5
def Bk (w:World) (g:Nat) (bs:List Bool):Prop:=w.heap[g]? = some (.cells (bs.map Value.bool).toArray 4 (0,0))
theorem Bk.at_ {w:World} {g:Nat} {bs:List Bool} (h:Bk w g bs) {i:Nat} (hi:i < bs.length):w.cell? ⟨g,i,none⟩=some (.bool (bs.getD i false)):=by
 refine blk_cell h i _ ?_
 simp [List.getElem?_eq_getElem hi]
theorem Bk.free {w:World} {g:Nat} {bs:List Bool} (h:Bk w g bs) (i:Nat):w.frozen? ⟨g,i,none⟩=false:=by
 unfold Bk at h
 simp [World.frozen?,h]
theorem Bk.below {w w':World} {g:Nat} {bs:List Bool} (h:Bk w g bs) (hb:Below w.heap.size w w'):Bk w' g bs:=blk_below hb h
theorem Bk.set {w:World} {g:Nat} {bs:List Bool} (h:Bk w g bs) (i:Nat) (b:Bool):Bk (w.setCell ⟨g,i,none⟩ (.bool b)) g (bs.set i b):=by
 have hlt:=lt_of_block h
 have h':w.heap[g] = .cells (bs.map Value.bool).toArray 4 (0,0):=by simpa [Bk,Array.getElem?_eq_getElem hlt] using h
 show (w.heap.modify g _)[g]? = _
 rw [Array.getElem?_eq_getElem (by simpa using hlt),Array.getElem_modify_self,h']
 simp
theorem make_bools (n:Nat) (hn:n≤1000000) (w:World):(Instr.makeSlice 109 (.int .i64 n) (.int .i64 n)).run Tryz.prog w=.ok (.slice (some ⟨w.heap.size,0,none⟩) n n) (w.alloc (.cells ((List.replicate n false).map Value.bool).toArray 4)):=by
 have h:=run_make_row' (P:=Tryz.prog) 109 4 (.bool false) 1 Tryz.underlying109 Tryz.info4 rfl .i64 .i64 n (by omega) (by omega) w
 rw [show madeCells #[Value.bool false] n=((List.replicate n false).map Value.bool).toArray from Array.ext (by simp [madeCells]) (fun i h1 h2=>by simp [madeCells,Nat.mod_one])] at h
 exact h
end Vt
namespace Vt
set_option maxHeartbeats 2000000 in
theorem clone_items (A:Option Addr) (n c:Nat) (l:List It) (w:World) (hl:Items w A n l) (hn:n≤1000000) :
  Calls Tryz.prog 159 #[.slice A n c] w fun e w'=>(∃ v,e=.returned v∧w'.ownsRow w.heap.size 192 4 v n (itemCells l))∧Below w.heap.size w w':=by
 obtain ⟨i0,hi,hz0,hz1,hz2⟩:=info_parts Tryz.info192
 have heq:=eql140
 cases A with
 | none =>
  go_enter Tryz.func159,Tryz.ntmps159
  go_wp2_with fail
  go_ret
  have h0:n=0:=by
   cases n with
   | zero=>rfl
   | succ n=>obtain ⟨ad,e,_⟩:=hl.2.2 (by omega);cases e
  subst h0
  have hl0:l=[]:=List.length_eq_zero_iff.1 hl.1.symm
  subst hl0
  exact ⟨⟨_,rfl,World.ownsRow_nil _ _ _ _⟩,Below.refl _ _⟩
 | some ad =>
  have hlit:(w.alloc (.cells #[] 192)).ownsRow w.heap.size 192 4 (.slice (some ⟨w.heap.size,0,none⟩) 0 0) 0 []:=World.ownsRow_lit w #[] 0 (Nat.le_refl _) (by simp only [maxLen];omega) (by simp)
  have hb0:=(Below.refl w.heap.size w).alloc (Nat.le_refl _) (.cells #[] 192)
  go_enter Tryz.func159,Tryz.ntmps159
  go_wp2_with (at_builtin;refine wp_append_rd rfl (.tmp 5) (.tmp 6) 140 rfl w.heap.size 192 i0 (.agg #[.int .i64 0,.int .i64 0,.int .i64 0,.int .i64 0]) 4 32 Tryz.underlying140 hi hz0 hz1 hz2 rfl (by decide) _ 0 _ rfl hlit (some ad) n c (itemCells l) rfl (hl.below hb0).2 (itemCells_one l) (by simp only [maxLen];omega) (by omega) (by first | (simp;done) | (simp;omega)) ?_;intro v' w4 hown4 hgrow4 hat4)
  rw [Nat.zero_add] at hown4
  have hb4:Below w.heap.size w w4:=below_own hb0 (Nat.le_refl _) hgrow4 (fun g h=>(hlit.lt g h).1)
  clear hgrow4 hat4
  go_wp2_with fail
  go_ret
  exact ⟨⟨_,rfl,hown4⟩,hb4⟩
theorem intCells_one' (l:List Int):∀ u ∈ intCells l,u.oneCell'=true:=by
 intro u hu
 obtain ⟨x,_,rfl⟩:=List.mem_map.1 hu
 rfl
end Vt
namespace Vt
set_option maxHeartbeats 2000000 in
theorem clone_row (A:Option Addr) (n c:Nat) (l:List Int) (w:World) (hl:Ints w A n l) (hn:n≤1000000) :
  Calls Tryz.prog 109 #[.slice A n c] w fun e w'=>(∃ v,e=.returned v∧w'.ownsRow w.heap.size 3 1 v n (intCells l))∧Below w.heap.size w w':=by
 obtain ⟨i0,hi,hz0,hz1,hz2⟩:=info_parts Tryz.info3
 have heq:=eql48
 cases A with
 | none =>
  go_enter Tryz.func109,Tryz.ntmps109
  go_wp2_with fail
  go_ret
  have h0:n=0:=by
   cases n with
   | zero=>rfl
   | succ n=>obtain ⟨ad,e,_⟩:=hl.2.2 (by omega);cases e
  subst h0
  have hl0:l=[]:=List.length_eq_zero_iff.1 hl.1.symm
  subst hl0
  exact ⟨⟨_,rfl,World.ownsRow_nil _ _ _ _⟩,Below.refl _ _⟩
 | some ad =>
  have hlit:(w.alloc (.cells #[] 3)).ownsRow w.heap.size 3 1 (.slice (some ⟨w.heap.size,0,none⟩) 0 0) 0 []:=World.ownsRow_lit w #[] 0 (Nat.le_refl _) (by simp only [maxLen];omega) (by simp)
  have hb0:=(Below.refl w.heap.size w).alloc (Nat.le_refl _) (.cells #[] 3)
  go_enter Tryz.func109,Tryz.ntmps109
  go_wp2_with (at_builtin;refine wp_append_rd rfl (.tmp 5) (.tmp 6) 48 rfl w.heap.size 3 i0 (.int .i64 0) 1 8 Tryz.underlying48 hi hz0 hz1 hz2 rfl (by decide) _ 0 _ rfl hlit (some ad) n c (intCells l) rfl (hl.below hb0).2 (intCells_one' l) (by simp only [maxLen];omega) (by omega) (by first | (simp;done) | (simp;omega)) ?_;intro v' w4 hown4 hgrow4 hat4)
  rw [Nat.zero_add] at hown4
  have hb4:Below w.heap.size w w4:=below_own hb0 (Nat.le_refl _) hgrow4 (fun g h=>(hlit.lt g h).1)
  clear hgrow4 hat4
  go_wp2_with fail
  go_ret
  exact ⟨⟨_,rfl,hown4⟩,hb4⟩
end Vt
namespace Vt
namespace K
def nearOf (bs:List Bool) (x:It):Bool:=!leafy x && (bs.getD x.lt.toNat false || bs.getD x.rt.toNat false)
def nearStep (l:List It) (bs:List Bool) (i:Nat):List Bool:=match l[i]? with
 | some x=>bs.set i (nearOf bs x)
 | none=>bs
def nearUp (l:List It) (leaf:Nat):Nat→List Bool
 | 0=>(List.replicate l.length false).set leaf true
 | k + 1=>nearStep l (nearUp l leaf k) (leaf + 1 + k)
def near (l:List It) (leaf:Nat):List Bool:=nearUp l leaf (l.length - (leaf + 1))
end K
theorem K.near_len (l:List It) (leaf k:Nat):(K.nearUp l leaf k).length=l.length:=by
 induction k with
 | zero=>simp [K.nearUp]
 | succ k ih =>
  simp only [K.nearUp,K.nearStep]
  split <;> simp [ih]
theorem K.near_next {l:List It} {leaf k:Nat} {x:It} (h:l[leaf + 1 + k]? = some x):K.nearUp l leaf (k + 1)=(K.nearUp l leaf k).set (leaf + 1 + k) (K.nearOf (K.nearUp l leaf k) x):=by
 simp only [K.nearUp,K.nearStep,h]
theorem K.soundFrom_at {l:List It}:∀ (r:List It) (i:Nat),K.soundFrom l i r=true→∀ (k:Nat) (x:It),r[k]? = some x→K.okAt l (i + k) x=true:=by
 intro r
 induction r with
 | nil=>intro i _ k x h;simp at h
 | cons y r ih =>
  intro i h k x hx
  simp only [K.soundFrom,Bool.and_eq_true] at h
  cases k with
  | zero=>simp at hx;subst hx;exact h.1
  | succ k =>
   have:=ih (i + 1) h.2 k x (by simpa using hx)
   rwa [show i + 1 + k=i + (k + 1) by omega] at this
theorem K.sound_at {l:List It} (h:K.sound l=true) {k:Nat} {x:It} (hx:l[k]? = some x):K.okAt l k x=true:=by
 simp only [K.sound,Bool.and_eq_true] at h
 have:=K.soundFrom_at l 0 h.1 k x hx
 rwa [Nat.zero_add] at this
theorem K.sound_parts {l:List It} (h:K.sound l=true) {k:Nat} {x:It} (hx:l[k]? = some x) (hlf:K.leafy x=false):(0≤x.lt∧x.lt < k)∧(0≤x.rt∧x.rt < k):=by
 have:=K.sound_at h hx
 simp only [K.okAt,hlf,Bool.and_eq_true,Bool.false_eq_true,if_false] at this
 exact ⟨K.has_iff.1 this.2.2.1,K.has_iff.1 this.2.2.2.1⟩
theorem rep_set (n i:Nat):(Array.replicate n (Value.bool false)).setIfInBounds i (.bool true)=(((List.replicate n false).set i true).map Value.bool).toArray:=by
 apply Array.ext'
 simp [List.map_set]
set_option maxRecDepth 100000 in
set_option maxHeartbeats 4000000 in
theorem reach_any (A:Option Addr) (n c:Nat) (l:List It) (leaf:Nat) (w:World) (hl:Items w A n l) (hn:n≤1000000) (hso:K.sound l=true) (hlf:leaf < n) :
  Calls Tryz.prog 165 #[.agg #[.slice A n c],.int .i64 leaf] w fun e w'=>∃ g,e=.returned (.slice (some ⟨g,0,none⟩) n n)∧w.heap.size≤g∧Bk w' g (K.near l leaf)∧Below w.heap.size w w':=by
 have hmk:=make_bools n hn
 have b0:=(Below.refl w.heap.size w).alloc (Nat.le_refl _) (.cells #[.slice A n c] 142)
 have hP0:=vbox w A n c
 have sz:=World.size_alloc w (.cells #[.slice A n c] 142)
 have HSO:=Lib.hid hso
 clear hso
 go_enter Tryz.func165,Tryz.ntmps165
 have hB:Bk ((w.alloc (.cells #[.slice A n c] 142)).alloc (.cells ((List.replicate n false).map Value.bool).toArray 4)) (w.heap.size + 1) (List.replicate n false):=heap_alloc_at _ _ _ sz.symm
 have c0:=hB.at_ (i:=leaf) (by simpa using hlf)
 have f0:=hB.free leaf
 have i0:(0:Int)≤(leaf:Int):=by omega
 have i1:(leaf:Int) < (n:Int):=by omega
 go_wp2_with fail
 have hB1:Bk ((w.alloc (.cells #[.slice A n c] 142)).alloc (.cells ((Array.replicate n (Value.bool false)).setIfInBounds leaf (.bool true)) 4)) (w.heap.size + 1) (K.nearUp l leaf 0):=by
  unfold Bk K.nearUp
  rw [heap_alloc_at _ _ _ sz.symm,←hl.1,rep_set]
 have hP1:((w.alloc (.cells #[.slice A n c] 142)).alloc (.cells ((Array.replicate n (Value.bool false)).setIfInBounds leaf (.bool true)) 4)).heap[w.heap.size]? = some (.cells #[.slice A n c] 142 (0,0)):=blk_alloc hP0 _
 have hb1:Below w.heap.size w ((w.alloc (.cells #[.slice A n c] 142)).alloc (.cells ((Array.replicate n (Value.bool false)).setIfInBounds leaf (.bool true)) 4)):=b0.alloc b0.size _
 clear hB c0 f0 hP0 b0 hmk
 go_loopw [6] (fun vi wr=>∃ idx k:Nat,idx=leaf + 1 + k∧vi=.int .i64 idx∧idx≤n∧Bk wr (w.heap.size + 1) (K.nearUp l leaf k)∧wr.heap[w.heap.size]? = some (.cells #[.slice A n c] 142 (0,0))∧Below w.heap.size w wr) (fun vi _=>n - (intOf vi).toNat)
 case atStart=>exact ⟨leaf + 1,0,rfl,by go_num,by omega,hB1,hP1,hb1⟩
 case round =>
  obtain ⟨idx,k,hidx,rfl,hin,hB,hP,hb⟩:=hrel
  clear hB1 hP1 hb1
  have p0:wr.cell? ⟨w.heap.size,0,none⟩=some (.slice A n c):=blk_cell hP 0 _ rfl
  by_cases hlt:idx < n
  ·obtain ⟨ad,x,rfl,hx,c0,c1,c2,c3⟩:=Items.at_ (hl.below hb) hlt
   have HN:=Lib.hid (K.near_next (k:=k) (by rw [←hidx];exact hx))
   have HX:=Lib.hid hx
   have hlen:(K.nearUp l leaf k).length=n:=by rw [K.near_len];exact hl.1.symm
   have HIX:=Lib.hid hidx
   have hX0:=(MapKept.heap_alloc wr (.cells #[.int .i64 x.val,.int .i64 x.bl,.int .i64 x.lt,.int .i64 x.rt] 192)).1
   have ba:=(Below.refl wr.heap.size wr).alloc (Nat.le_refl _) (.cells #[.int .i64 x.val,.int .i64 x.bl,.int .i64 x.lt,.int .i64 x.rt] 192)
   clear hx hidx
   generalize hbs:K.nearUp l leaf k=bs at *
   have HBS:=Lib.hid hbs
   clear hbs
   go_wp2_with fail
   refine (leaf_any x _).mono ?_
   rintro e w2 ⟨rfl,b2⟩
   have bw:=bel ba b2
   have hX1:=blk_below b2 hX0
   have hB:=hB.below bw
   have hP:=blk_below bw hP
   have hb:=bel hb bw
   clear ba b2 hX0 p0 c0 c1 c2 c3
   have z2:w2.cell? ⟨wr.heap.size,2,none⟩=some (.int .i64 x.lt):=blk_cell hX1 2 _ rfl
   have z3:w2.cell? ⟨wr.heap.size,3,none⟩=some (.int .i64 x.rt):=blk_cell hX1 3 _ rfl
   have p0:w2.cell? ⟨w.heap.size,0,none⟩=some (.slice (some ad) n c):=blk_cell hP 0 _ rfl
   have y0:=hB.at_ (i:=idx) (by omega)
   have fy:=hB.free
   cases hlf:K.leafy x
   ·obtain ⟨⟨l0,l1⟩,r0,r1⟩:=K.sound_parts HSO.out HX.out hlf
    obtain ⟨i,hi⟩:∃ i:Nat,x.lt=i:=⟨x.lt.toNat,by omega⟩
    obtain ⟨j,hj⟩:∃ j:Nat,x.rt=j:=⟨x.rt.toNat,by omega⟩
    have ci:=hB.at_ (i:=i) (by omega)
    have cj:=hB.at_ (i:=j) (by omega)
    have HV:=Lib.hid (show K.nearOf bs x=(bs.getD i false || bs.getD j false) by simp [K.nearOf,hlf,hi,hj])
    have ii:i < n:=by omega
    have jj:j < n:=by omega
    generalize bs.getD i false=bi at *
    generalize bs.getD j false=bj at *
    cases bi
    all_goals
     go_wp2_with fail
     go_roundw
     case rel=>exact ⟨idx + 1,k + 1,by rw [HIX.out];omega,by go_num,by omega,by rw [HN.out,HV.out,←HIX.out];exact hB.set idx _,(Below.heap_setCell _ _ _ _ (by simp)).trans hP,hb.setCell (by simp) _⟩
     case measure=>simp [intOf];omega
   ·have HV:=Lib.hid (show K.nearOf bs x=false by simp [K.nearOf,hlf])
    go_wp2_with fail
    go_roundw
    case rel=>exact ⟨idx + 1,k + 1,by rw [HIX.out];omega,by go_num,by omega,by rw [HN.out,HV.out,←HIX.out];exact hB.set idx _,(Below.heap_setCell _ _ _ _ (by simp)).trans hP,hb.setCell (by simp) _⟩
    case measure=>simp [intOf];omega
  ·have hend:K.near l leaf=K.nearUp l leaf k:=by unfold K.near;rw [←hl.1,show n - (leaf + 1)=k by omega]
   rw [←hend] at hB
   clear hend
   go_wp2_with fail
   go_ret
   exact ⟨_,rfl,by omega,hB,hb⟩
end Vt
namespace Vt
namespace K
def nextOf (bs:List Bool) (x:It):Int:=if bs.getD (min x.lt x.rt).toNat false then min x.lt x.rt else max x.lt x.rt
def tailOf (l:List It) (bs:List Bool) (leaf:Nat):Nat→Nat→List Int
 | 0,_=>[]
 | f + 1,k=>if k=leaf then [] else match l[k]? with
  | some x=>nextOf bs x :: tailOf l bs leaf f (nextOf bs x).toNat
  | none=>[]
def path (l:List It) (root leaf:Int):List Int :=
 if (sound l && (has l.length root && (has l.length leaf && (near l leaf.toNat).getD root.toNat false)))=true then root :: tailOf l (near l leaf.toNat) leaf.toNat (root.toNat + 1) root.toNat else []
end K
theorem K.near_spec {l:List It} (hso:K.sound l=true) {leaf:Nat}:∀ (k:Nat) (i:Nat) (x:It),l[i]? = some x →
  (K.nearUp l leaf k).getD i false=(if i=leaf then true else if leaf < i∧i < leaf + 1 + k then K.nearOf (K.nearUp l leaf k) x else false):=by
 intro k
 induction k with
 | zero =>
  intro i x hx
  have hi:=(List.getElem?_eq_some_iff.1 hx).1
  simp only [K.nearUp,List.getD_eq_getElem?_getD,List.getElem?_set,List.length_replicate]
  by_cases h:i=leaf
  ·subst h;simp [hi]
  ·rw [if_neg (Ne.symm h),if_neg h,if_neg (by omega)]
   simp [hi]
 | succ k ih =>
  intro i x hx
  have hi:=(List.getElem?_eq_some_iff.1 hx).1
  by_cases hlt:leaf + 1 + k < l.length
  ·have hy:l[leaf + 1 + k]? = some (l[leaf + 1 + k]'hlt):=List.getElem?_eq_getElem hlt
   rw [K.near_next hy]
   have hlen:=K.near_len l leaf k
   obtain ⟨vv,hvv⟩:∃ vv,vv=K.nearOf (K.nearUp l leaf k) (l[leaf + 1 + k]'hlt):=⟨_,rfl⟩
   rw [←hvv]
   -- the parts of an item stand before it
   have old:∀ j:Nat,j < leaf + 1 + k→((K.nearUp l leaf k).set (leaf + 1 + k) vv).getD j false=(K.nearUp l leaf k).getD j false:=by
    intro j hj
    simp only [List.getD_eq_getElem?_getD]
    rw [List.getElem?_set_ne (by omega)]
   have same:∀ y,l[i]? = some y→i≤leaf + 1 + k→K.nearOf ((K.nearUp l leaf k).set (leaf + 1 + k) vv) y=K.nearOf (K.nearUp l leaf k) y:=by
    intro y hy' hik
    unfold K.nearOf
    cases hlf:K.leafy y
    ·obtain ⟨⟨a0,a1⟩,b0,b1⟩:=K.sound_parts hso hy' hlf
     rw [old _ (by omega),old _ (by omega)]
    ·rfl
   by_cases e:i=leaf + 1 + k
   ·subst e
    rw [if_neg (by omega),if_pos (by omega)]
    rw [same x hx (Nat.le_refl _)]
    simp only [List.getD_eq_getElem?_getD]
    rw [List.getElem?_set_self (by omega)]
    rw [hy] at hx;injection hx with hx;rw [hvv,hx];rfl
   ·by_cases e2:i < leaf + 1 + k
    ·rw [old i e2,ih i x hx,same x hx (by omega)]
     by_cases e3:i=leaf
     ·simp [e3]
     ·rw [if_neg e3,if_neg e3]
      by_cases e4:leaf < i
      ·rw [if_pos ⟨e4,e2⟩,if_pos ⟨e4,by omega⟩]
      ·rw [if_neg (by omega),if_neg (by omega)]
    ·simp only [List.getD_eq_getElem?_getD]
     rw [List.getElem?_set_ne (by omega)]
     have:=ih i x hx
     simp only [List.getD_eq_getElem?_getD] at this
     rw [this,if_neg (by omega),if_neg (by omega),if_neg (by omega),if_neg (by omega)]
  ·have hy:l[leaf + 1 + k]? = none:=List.getElem?_eq_none (by omega)
   have he:K.nearUp l leaf (k + 1)=K.nearUp l leaf k:=by simp only [K.nearUp,K.nearStep,hy]
   rw [he,ih i x hx]
   by_cases e3:i=leaf
   ·simp [e3]
   ·rw [if_neg e3,if_neg e3]
    by_cases e4:leaf < i
    ·rw [if_pos ⟨e4,by omega⟩,if_pos ⟨e4,by omega⟩]
    ·rw [if_neg (by omega),if_neg (by omega)]
theorem K.near_at {l:List It} (hso:K.sound l=true) {leaf i:Nat} {x:It} (hx:l[i]? = some x):(K.near l leaf).getD i false=(if i=leaf then true else if leaf < i then K.nearOf (K.near l leaf) x else false):=by
 have hi:=(List.getElem?_eq_some_iff.1 hx).1
 have h:=K.near_spec hso (leaf:=leaf) (l.length - (leaf + 1)) i x hx
 unfold K.near
 rw [h]
 by_cases e3:i=leaf
 ·simp [e3]
 ·rw [if_neg e3,if_neg e3]
  by_cases e4:leaf < i
  ·rw [if_pos ⟨e4,by omega⟩,if_pos e4]
  ·rw [if_neg (by omega),if_neg e4]
theorem K.near_step {l:List It} (hso:K.sound l=true) {leaf i:Nat} {x:It} (hx:l[i]? = some x) (hn:(K.near l leaf).getD i false=true) (hne:i ≠ leaf) :
  K.leafy x=false∧((0≤x.lt∧x.lt < i)∧(0≤x.rt∧x.rt < i))∧(K.near l leaf).getD (K.nextOf (K.near l leaf) x).toNat false=true:=by
 rw [K.near_at hso hx,if_neg hne] at hn
 split at hn
 ·have hlf:K.leafy x=false:=by
   cases h:K.leafy x
   ·rfl
   ·simp [K.nearOf,h] at hn
  refine ⟨hlf,K.sound_parts hso hx hlf,?_⟩
  simp only [K.nearOf,hlf,Bool.not_false,Bool.true_and,Bool.or_eq_true] at hn
  unfold K.nextOf
  split
  ·assumption
  ·rename_i h
   rcases Int.le_total x.lt x.rt with e | e
   ·rw [Int.min_eq_left e] at h
    rw [Int.max_eq_right e]
    rcases hn with hn | hn
    ·exact absurd hn h
    ·exact hn
   ·rw [Int.min_eq_right e] at h
    rw [Int.max_eq_left e]
    rcases hn with hn | hn
    ·exact hn
    ·exact absurd hn h
 ·simp at hn
theorem K.tail_next {l:List It} {bs:List Bool} {leaf f k:Nat} {x:It} (hx:l[k]? = some x) (hne:k ≠ leaf):K.tailOf l bs leaf (f + 1) k=K.nextOf bs x :: K.tailOf l bs leaf f (K.nextOf bs x).toNat:=by
 simp only [K.tailOf,if_neg hne,hx]
theorem K.tail_end {l:List It} {bs:List Bool} {leaf f:Nat}:K.tailOf l bs leaf f leaf=[]:=by
 cases f <;> simp [K.tailOf]
end Vt
namespace Vt
theorem K.path_no {l:List It} {root leaf:Int} (h:(K.sound l && (K.has l.length root && (K.has l.length leaf && (K.near l leaf.toNat).getD root.toNat false)))=false):K.path l root leaf=[]:=by
 unfold K.path;rw [h];rfl
set_option maxRecDepth 100000 in
set_option maxHeartbeats 8000000 in
theorem path_any (A:Option Addr) (n c:Nat) (l:List It) (root leaf:Int) (w:World) (hl:Items w A n l) (hn:n≤100000) :
  Calls Tryz.prog 116 #[.agg #[.slice A n c],.int .i64 root,.int .i64 leaf] w fun e w'=>(∃ A' n' c',e=.returned (.slice A' n' c')∧Ints w' A' n' (K.path l root leaf))∧Below w.heap.size w w':=by
 have b0:=(Below.refl w.heap.size w).alloc (Nat.le_refl _) (.cells #[.slice A n c] 142)
 have hP0:=vbox w A n c
 have hnn:n≤1000000000000:=by omega
 cases h1:K.sound l
 ·have HX:=Lib.hid (K.path_no (root:=root) (leaf:=leaf) (l:=l) (by rw [h1];rfl))
  have H1:=Lib.hid h1
  clear h1
  go_enter Tryz.func116,Tryz.ntmps116
  go_wp2_with fail
  refine (sound_any A n c l _ (hl.below b0) hnn).mono ?_;rw [H1.out];rintro e w1 ⟨rfl,b1⟩
  go_wp2_with fail
  go_ret
  exact ⟨⟨_,_,_,rfl,by rw [HX.out];exact ints_nil _⟩,bel b0 b1⟩
 have H1:=Lib.hid h1
 cases h2:K.has n root
 ·have HX:=Lib.hid (K.path_no (root:=root) (leaf:=leaf) (l:=l) (by rw [h1,←hl.1,h2];rfl))
  have H2:=Lib.hid h2
  clear h1 h2
  go_enter Tryz.func116,Tryz.ntmps116
  go_wp2_with fail
  refine (sound_any A n c l _ (hl.below b0) hnn).mono ?_;rw [H1.out];rintro e w1 ⟨rfl,b1⟩
  have hP1:=blk_below b1 hP0
  have p0:w1.cell? ⟨w.heap.size,0,none⟩=some (.slice A n c):=blk_cell hP1 0 _ rfl
  go_wp2_with fail
  refine (has_any A n c root _).mono ?_;rw [H2.out];rintro e w2 ⟨rfl,b2⟩
  go_wp2_with fail
  go_ret
  exact ⟨⟨_,_,_,rfl,by rw [HX.out];exact ints_nil _⟩,bel (bel b0 b1) b2⟩
 have H2:=Lib.hid h2
 cases h3:K.has n leaf
 ·have HX:=Lib.hid (K.path_no (root:=root) (leaf:=leaf) (l:=l) (by rw [h1,←hl.1,h2,h3];rfl))
  have H3:=Lib.hid h3
  clear h1 h2 h3
  go_enter Tryz.func116,Tryz.ntmps116
  go_wp2_with fail
  refine (sound_any A n c l _ (hl.below b0) hnn).mono ?_;rw [H1.out];rintro e w1 ⟨rfl,b1⟩
  have hP1:=blk_below b1 hP0
  have p0:w1.cell? ⟨w.heap.size,0,none⟩=some (.slice A n c):=blk_cell hP1 0 _ rfl
  go_wp2_with fail
  refine (has_any A n c root _).mono ?_;rw [H2.out];rintro e w2 ⟨rfl,b2⟩
  have hP2:=blk_below b2 hP1
  clear p0
  have p0:w2.cell? ⟨w.heap.size,0,none⟩=some (.slice A n c):=blk_cell hP2 0 _ rfl
  go_wp2_with fail
  refine (has_any A n c leaf _).mono ?_;rw [H3.out];rintro e w3 ⟨rfl,b3⟩
  go_wp2_with fail
  go_ret
  exact ⟨⟨_,_,_,rfl,by rw [HX.out];exact ints_nil _⟩,bel (bel (bel b0 b1) b2) b3⟩
 have H3:=Lib.hid h3
 obtain ⟨r0,r1⟩:=K.has_iff.1 h2
 obtain ⟨f0,f1⟩:=K.has_iff.1 h3
 obtain ⟨ro,rfl⟩:∃ k:Nat,root=k:=⟨root.toNat,by omega⟩
 obtain ⟨lf,rfl⟩:∃ k:Nat,leaf=k:=⟨leaf.toNat,by omega⟩
 have hro:ro < n:=by omega
 have hlf:lf < n:=by omega
 have HPA:=Lib.hid (show K.path l ro lf=if (K.near l lf).getD ro false=true then (ro:Int) :: K.tailOf l (K.near l lf) lf (ro + 1) ro else [] by
  unfold K.path;rw [h1,←hl.1,h2,h3];rfl)
 have hnl:(K.near l lf).length=n:=by unfold K.near;rw [K.near_len];exact hl.1.symm
 have HNS:=Lib.hid (fun (i:Nat) (x:It) (hx:l[i]? = some x)=>K.near_step (leaf:=lf) h1 hx)
 clear h1 h2 h3 r0 r1 f0 f1
 go_enter Tryz.func116,Tryz.ntmps116
 go_wp2_with fail
 refine (sound_any A n c l _ (hl.below b0) hnn).mono ?_;rw [H1.out];rintro e w1 ⟨rfl,b1⟩
 have hP1:=blk_below b1 hP0
 have p0:w1.cell? ⟨w.heap.size,0,none⟩=some (.slice A n c):=blk_cell hP1 0 _ rfl
 have hb:=bel b0 b1
 clear b0 b1 hP0
 go_wp2_with fail
 refine (has_any A n c ro _).mono ?_;rw [H2.out];rintro e w2 ⟨rfl,b2⟩
 have hP2:=blk_below b2 hP1
 have hb:=bel hb b2
 clear p0 b2
 have p0:w2.cell? ⟨w.heap.size,0,none⟩=some (.slice A n c):=blk_cell hP2 0 _ rfl
 go_wp2_with fail
 refine (has_any A n c lf _).mono ?_;rw [H3.out];rintro e w3 ⟨rfl,b3⟩
 have hP3:=blk_below b3 hP2
 have hb:=bel hb b3
 clear p0 b3
 have p0:w3.cell? ⟨w.heap.size,0,none⟩=some (.slice A n c):=blk_cell hP3 0 _ rfl
 go_wp2_with fail
 refine (reach_any A n c l lf _ (hl.below hb) (by omega) H1.out hlf).mono ?_
 rintro e w4 ⟨g,rfl,hg,hB,b4⟩
 have hP4:=blk_below b4 hP3
 have hb:=bel hb b4
 clear p0 b4 hg
 have hBr:=hB.at_ (i:=ro) (by rw [hnl];exact hro)
 have i0:(0:Int)≤(ro:Int):=by omega
 have i1:(ro:Int) < (n:Int):=by omega
 cases hne:(K.near l lf).getD ro false
 ·rw [hne] at hBr
  have HX:=Lib.hid (show K.path l ro lf=[] by rw [HPA.out,hne];rfl)
  clear hne
  go_wp2_with fail
  go_ret
  exact ⟨⟨_,_,_,rfl,by rw [HX.out];exact ints_nil _⟩,hb⟩
 ·rw [hne] at hBr
  have HX:=Lib.hid (show K.path l ro lf=(ro:Int) :: K.tailOf l (K.near l lf) lf (ro + 1) ro by rw [HPA.out,hne];rfl)
  have HNE:=Lib.hid hne
  clear hne
  go_wp2_with fail
  have hlit:(w4.alloc (.cells #[.int .i64 ro] 3)).ownsRow w4.heap.size 3 1 (.slice (some ⟨w4.heap.size,0,none⟩) 1 1) 1 (intCells [(ro:Int)]):=World.ownsRow_lit w4 #[.int .i64 ro] 1 (Nat.le_refl _) (by simp only [maxLen];omega) (by simp)
  have b4:=(Below.refl w4.heap.size w4).alloc (Nat.le_refl _) (.cells #[.int .i64 ro] 3)
  go_loopw [8,9] (fun v va wr=>∃ (k f m:Nat) (P:List Int),va=.int .i64 k∧k < n∧k < f∧m=P.length∧m + k≤n∧Hid (K.path l ro lf=P ++ K.tailOf l (K.near l lf) lf f k)∧Hid ((K.near l lf).getD k false=true)∧wr.ownsRow w4.heap.size 3 1 v m (intCells P)∧Below w4.heap.size w4 wr) (fun _ va _=>(intOf va).toNat)
  case atStart=>exact ⟨ro,ro + 1,1,[(ro:Int)],rfl,hro,by omega,rfl,by omega,HX.out,HNE.out,hlit,b4⟩
  case round =>
   obtain ⟨k,f,m,P,rfl,hk,hkf,hm,hmk,hpa,hne,hown,hbr⟩:=hrel
   clear hlit b4 hBr
   have hbw:=bel hb hbr
   have hP:=blk_below hbr hP4
   have p0:wr.cell? ⟨w.heap.size,0,none⟩=some (.slice A n c):=blk_cell hP 0 _ rfl
   have hB:=hB.below hbr
   by_cases hkl:k=lf
   ·subst hkl
    have hend:K.path l ro k=P:=by rw [hpa.out,K.tail_end,List.append_nil]
    obtain ⟨A',c',rfl,hI⟩:=own_ints hown hm
    have HEN:=Lib.hid hend
    clear hend hown hpa
    go_wp2_with fail
    go_ret
    exact ⟨⟨_,_,_,rfl,by rw [HEN.out];exact hI⟩,hbw⟩
   ·obtain ⟨ad,x,rfl,hx,c0,c1,c2,c3⟩:=Items.at_ (hl.below hbw) hk
    obtain ⟨hlx,⟨⟨l0,l1⟩,q0,q1⟩,hnx⟩:=HNS.out k x hx hne.out hkl
    obtain ⟨f',rfl⟩:∃ f',f=f' + 1:=⟨f - 1,by omega⟩
    have HT:=Lib.hid (K.tail_next (bs:=K.near l lf) (f:=f') hx hkl)
    have hkb:((k:Int) != (lf:Int))=true:=by simp;omega
    obtain ⟨i,hi⟩:∃ i:Nat,x.lt=i:=⟨x.lt.toNat,by omega⟩
    obtain ⟨j,hj⟩:∃ j:Nat,x.rt=j:=⟨x.rt.toNat,by omega⟩
    have hik:i < k:=by omega
    have hjk:j < k:=by omega
    have ci:=hB.at_ (i:=i) (by rw [hnl];omega)
    have cj:=hB.at_ (i:=j) (by rw [hnl];omega)
    have HNX:=Lib.hid hnx
    have HIJ:=Lib.hid (show K.nextOf (K.near l lf) x=if (K.near l lf).getD (min (i:Int) j).toNat false then min (i:Int) j else max (i:Int) j by unfold K.nextOf;rw [hi,hj])
    clear hx hkl hlx l0 l1 q0 q1 hnx
    rw [hi] at c2
    rw [hj] at c3
    have bd:∀ (o:Obj) (nq:Nat) (o':Obj),Below wr.heap.size wr (((wr.alloc o).drewN nq).alloc o'):=fun o nq o'=>(below_drewN ((Below.refl wr.heap.size wr).alloc (Nat.le_refl _) o) nq).alloc (by show _≤(wr.alloc o).heap.size;rw [World.size_alloc];omega) o'
    have ownd:∀ (o:Obj) (nq:Nat) (o':Obj),(((wr.alloc o).drewN nq).alloc o').ownsRow w4.heap.size 3 1 u8 m (intCells P):=fun o nq o'=>own_below hown (bd o nq o')
    have newd:∀ (o:Obj) (nq:Nat) (y:Int),(((wr.alloc o).drewN nq).alloc (.cells #[.int .i64 y] 3)).heap[wr.heap.size + 1]? = some (.cells #[.int .i64 y] 3 (0,0)):=fun o nq y=>heap_alloc_at _ _ _ (by show _=(wr.alloc o).heap.size;rw [World.size_alloc])
    have szd:∀ (o:Obj) (nq:Nat) (o':Obj),w4.heap.size≤(((wr.alloc o).drewN nq).alloc o').heap.size:=fun o nq o'=>Nat.le_trans hbr.size (bd o nq o').size
    by_cases hij:i < j
    ·have i2:(i:Int) < (j:Int):=by omega
     have cf:=hB.at_ (i:=i) (by rw [hnl];omega)
     have cfa:∀ (o:Obj) (nq:Nat),((wr.alloc o).drewN nq).cell? ⟨g,i,none⟩=some (.bool ((K.near l lf).getD i false)):=fun o nq=>(((Below.refl _ _).alloc (Nat.le_refl _) _).cell (cell_lt cf)).trans cf
     have HMM:=Lib.hid (show K.nextOf (K.near l lf) x=if (K.near l lf).getD i false then (i:Int) else (j:Int) by rw [HIJ.out,Int.min_eq_left (by omega),Int.max_eq_right (by omega),Int.toNat_natCast])
     cases hbf:(K.near l lf).getD i false
     ·have HY:=Lib.hid (show K.nextOf (K.near l lf) x=(j:Int) by rw [HMM.out,hbf];rfl)
      rw [hbf] at cfa
      clear hbf cf HMM ci cj
      go_wp2_with fail
      go_quiet (fail)
      go_wp2_with (at_builtin;refine app_int rfl (.tmp 64) (.tmp 66) rfl w4.heap.size _ _ _ rfl (ownd _ _ _) (wr.heap.size + 1) j rfl (newd _ _ _) (by omega) (szd _ _ _) ?_;intro v' w6 hown6 hgrow6 hat6)
      have hb6:Below w4.heap.size w4 w6:=(hbr.trans ((bd _ _ _).mono hbr.size)).grown hgrow6 (szd _ _ _) (fun g h=>(hown.lt g h).1)
      clear hgrow6 hat6
      go_roundw
      case rel=>exact ⟨j,f',m + 1,P ++ [(j:Int)],rfl,by omega,by omega,by rw [List.length_append,hm];rfl,by omega,by show _=_;rw [hpa.out,HT.out,HY.out,Int.toNat_natCast,List.append_assoc];rfl,by show _=_;have:=HNX.out;rwa [HY.out,Int.toNat_natCast] at this,hown6,hb6⟩
      case measure=>simp [intOf];omega
     ·have HY:=Lib.hid (show K.nextOf (K.near l lf) x=(i:Int) by rw [HMM.out,hbf];rfl)
      rw [hbf] at cfa
      clear hbf cf HMM ci cj
      go_wp2_with fail
      go_quiet (fail)
      go_wp2_with (at_builtin;refine app_int rfl (.tmp 64) (.tmp 66) rfl w4.heap.size _ _ _ rfl (ownd _ _ _) (wr.heap.size + 1) i rfl (newd _ _ _) (by omega) (szd _ _ _) ?_;intro v' w6 hown6 hgrow6 hat6)
      have hb6:Below w4.heap.size w4 w6:=(hbr.trans ((bd _ _ _).mono hbr.size)).grown hgrow6 (szd _ _ _) (fun g h=>(hown.lt g h).1)
      clear hgrow6 hat6
      go_roundw
      case rel=>exact ⟨i,f',m + 1,P ++ [(i:Int)],rfl,by omega,by omega,by rw [List.length_append,hm];rfl,by omega,by show _=_;rw [hpa.out,HT.out,HY.out,Int.toNat_natCast,List.append_assoc];rfl,by show _=_;have:=HNX.out;rwa [HY.out,Int.toNat_natCast] at this,hown6,hb6⟩
      case measure=>simp [intOf];omega
    by_cases hji:j < i
    ·have i2:(j:Int) < (i:Int):=by omega
     have cf:=hB.at_ (i:=j) (by rw [hnl];omega)
     have cfa:∀ (o:Obj) (nq:Nat),((wr.alloc o).drewN nq).cell? ⟨g,j,none⟩=some (.bool ((K.near l lf).getD j false)):=fun o nq=>(((Below.refl _ _).alloc (Nat.le_refl _) _).cell (cell_lt cf)).trans cf
     have HMM:=Lib.hid (show K.nextOf (K.near l lf) x=if (K.near l lf).getD j false then (j:Int) else (i:Int) by rw [HIJ.out,Int.min_eq_right (by omega),Int.max_eq_left (by omega),Int.toNat_natCast])
     cases hbf:(K.near l lf).getD j false
     ·have HY:=Lib.hid (show K.nextOf (K.near l lf) x=(i:Int) by rw [HMM.out,hbf];rfl)
      rw [hbf] at cfa
      clear hbf cf HMM ci cj
      go_wp2_with fail
      go_quiet (fail)
      go_wp2_with (at_builtin;refine app_int rfl (.tmp 64) (.tmp 66) rfl w4.heap.size _ _ _ rfl (ownd _ _ _) (wr.heap.size + 1) i rfl (newd _ _ _) (by omega) (szd _ _ _) ?_;intro v' w6 hown6 hgrow6 hat6)
      have hb6:Below w4.heap.size w4 w6:=(hbr.trans ((bd _ _ _).mono hbr.size)).grown hgrow6 (szd _ _ _) (fun g h=>(hown.lt g h).1)
      clear hgrow6 hat6
      go_roundw
      case rel=>exact ⟨i,f',m + 1,P ++ [(i:Int)],rfl,by omega,by omega,by rw [List.length_append,hm];rfl,by omega,by show _=_;rw [hpa.out,HT.out,HY.out,Int.toNat_natCast,List.append_assoc];rfl,by show _=_;have:=HNX.out;rwa [HY.out,Int.toNat_natCast] at this,hown6,hb6⟩
      case measure=>simp [intOf];omega
     ·have HY:=Lib.hid (show K.nextOf (K.near l lf) x=(j:Int) by rw [HMM.out,hbf];rfl)
      rw [hbf] at cfa
      clear hbf cf HMM ci cj
      go_wp2_with fail
      go_quiet (fail)
      go_wp2_with (at_builtin;refine app_int rfl (.tmp 64) (.tmp 66) rfl w4.heap.size _ _ _ rfl (ownd _ _ _) (wr.heap.size + 1) j rfl (newd _ _ _) (by omega) (szd _ _ _) ?_;intro v' w6 hown6 hgrow6 hat6)
      have hb6:Below w4.heap.size w4 w6:=(hbr.trans ((bd _ _ _).mono hbr.size)).grown hgrow6 (szd _ _ _) (fun g h=>(hown.lt g h).1)
      clear hgrow6 hat6
      go_roundw
      case rel=>exact ⟨j,f',m + 1,P ++ [(j:Int)],rfl,by omega,by omega,by rw [List.length_append,hm];rfl,by omega,by show _=_;rw [hpa.out,HT.out,HY.out,Int.toNat_natCast,List.append_assoc];rfl,by show _=_;have:=HNX.out;rwa [HY.out,Int.toNat_natCast] at this,hown6,hb6⟩
      case measure=>simp [intOf];omega
    ·have hee:i=j:=by omega
     subst hee
     have cf:=hB.at_ (i:=i) (by rw [hnl];omega)
     have cfa:∀ (o:Obj) (nq:Nat),((wr.alloc o).drewN nq).cell? ⟨g,i,none⟩=some (.bool ((K.near l lf).getD i false)):=fun o nq=>(((Below.refl _ _).alloc (Nat.le_refl _) _).cell (cell_lt cf)).trans cf
     have HMM:=Lib.hid (show K.nextOf (K.near l lf) x=if (K.near l lf).getD i false then (i:Int) else (i:Int) by rw [HIJ.out,Int.min_eq_left (by omega),Int.max_eq_left (by omega),Int.toNat_natCast])
     cases hbf:(K.near l lf).getD i false
     ·have HY:=Lib.hid (show K.nextOf (K.near l lf) x=(i:Int) by rw [HMM.out,hbf];rfl)
      rw [hbf] at cfa
      clear hbf cf HMM ci cj
      go_wp2_with fail
      go_quiet (fail)
      go_wp2_with (at_builtin;refine app_int rfl (.tmp 64) (.tmp 66) rfl w4.heap.size _ _ _ rfl (ownd _ _ _) (wr.heap.size + 1) i rfl (newd _ _ _) (by omega) (szd _ _ _) ?_;intro v' w6 hown6 hgrow6 hat6)
      have hb6:Below w4.heap.size w4 w6:=(hbr.trans ((bd _ _ _).mono hbr.size)).grown hgrow6 (szd _ _ _) (fun g h=>(hown.lt g h).1)
      clear hgrow6 hat6
      go_roundw
      case rel=>exact ⟨i,f',m + 1,P ++ [(i:Int)],rfl,by omega,by omega,by rw [List.length_append,hm];rfl,by omega,by show _=_;rw [hpa.out,HT.out,HY.out,Int.toNat_natCast,List.append_assoc];rfl,by show _=_;have:=HNX.out;rwa [HY.out,Int.toNat_natCast] at this,hown6,hb6⟩
      case measure=>simp [intOf];omega
     ·have HY:=Lib.hid (show K.nextOf (K.near l lf) x=(i:Int) by rw [HMM.out,hbf];rfl)
      rw [hbf] at cfa
      clear hbf cf HMM ci cj
      go_wp2_with fail
      go_quiet (fail)
      go_wp2_with (at_builtin;refine app_int rfl (.tmp 64) (.tmp 66) rfl w4.heap.size _ _ _ rfl (ownd _ _ _) (wr.heap.size + 1) i rfl (newd _ _ _) (by omega) (szd _ _ _) ?_;intro v' w6 hown6 hgrow6 hat6)
      have hb6:Below w4.heap.size w4 w6:=(hbr.trans ((bd _ _ _).mono hbr.size)).grown hgrow6 (szd _ _ _) (fun g h=>(hown.lt g h).1)
      clear hgrow6 hat6
      go_roundw
      case rel=>exact ⟨i,f',m + 1,P ++ [(i:Int)],rfl,by omega,by omega,by rw [List.length_append,hm];rfl,by omega,by show _=_;rw [hpa.out,HT.out,HY.out,Int.toNat_natCast,List.append_assoc];rfl,by show _=_;have:=HNX.out;rwa [HY.out,Int.toNat_natCast] at this,hown6,hb6⟩
      case measure=>simp [intOf];omega
end Vt
end Go.Proofs.YtippdjmpkafifaaGreat
