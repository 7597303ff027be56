import Derived.Test.YtippdjmpkafifaaTA8
namespace Go.Proofs.Ytippdjmpkafifaa
open Go.RowKit
set_option maxHeartbeats 4000000 in
theorem index101_any (A:Option Addr) (n c:Nat) (l:List Int) (x:Int) (w:World) (hl:Ints w A n l) (hn:n≤1000000000) :
  Calls Try.prog 101 #[.slice A n c,.int .i64 x] w fun e w'=>(∃ i:Int,e=.returned (.int .i64 i)∧(decide (0≤i))=l.any (· == x))∧Below w.heap.size w w':=by
 go_enter Try.func101,Try.ntmps101
 go_wp2_with fail
 go_loopw [8] (fun vi wr=>∃ k:Nat,vi=.int .i64 k∧k≤n∧Hid (l.any (· == x)=(l.drop k).any (· == x))∧Below w.heap.size w wr) (fun vi _=>n - (intOf vi).toNat)
 case atStart=>exact ⟨0,rfl,by omega,by show _=_;rw [List.drop_zero],Below.refl _ _⟩
 case round =>
  obtain ⟨k,rfl,hk,hr,hW⟩:=hrel
  by_cases hlt:k < n
  ·obtain ⟨ad,y,rfl,hg,c0⟩:=(hl.below hW).at_ hlt
   have HS:=Lib.hid (drop_any (p:=(· == x)) hg)
   have k0:(0:Int)≤(k:Int):=by omega
   have k1:(k:Int) < (n:Int):=by omega
   clear hg
   by_cases hxy:x=y
   ·have hd1:decide (x=y)=true:=decide_eq_true hxy
    have hd2:(x == y)=true:=beq_iff_eq.2 hxy
    have HR9:=Lib.hid (show (y == x)=true from beq_iff_eq.2 hxy.symm)
    clear hxy
    go_wp2_with fail
    go_ret
    exact ⟨⟨k,rfl,by rw [hr.out,HS.out,HR9.out];simp⟩,hW⟩
   ·have hd1:decide (x=y)=false:=decide_eq_false hxy
    have hd2:(x == y)=false:=beq_eq_false_iff_ne.2 hxy
    have HR9:=Lib.hid (show (y == x)=false from beq_eq_false_iff_ne.2 fun e=>hxy e.symm)
    clear hxy
    go_wp2_with fail
    go_roundw
    case rel=>exact ⟨k + 1,by go_num,by omega,by show _=_;rw [hr.out,HS.out,HR9.out];rfl,hW⟩
    case measure=>simp [intOf];omega
  ·have hd:l.drop k=[]:=List.drop_eq_nil_of_le (by rw [←hl.1];omega)
   have HD:=Lib.hid hd
   clear hd
   go_wp2_with fail
   go_ret
   exact ⟨⟨-1,rfl,by rw [hr.out,HD.out];rfl⟩,hW⟩
set_option maxHeartbeats 4000000 in
theorem contains64_any (A:Option Addr) (n c:Nat) (l:List Int) (x:Int) (w:World) (hl:Ints w A n l) (hn:n≤1000000000) :
  Calls Try.prog 64 #[.slice A n c,.int .i64 x] w fun e w'=>e=.returned (.bool (l.any (· == x)))∧Below w.heap.size w w':=by
 have CI:=index101_any A n c l x w hl hn
 go_enter Try.func64,Try.ntmps64
 go_wp2_with fail
 refine CI.mono ?_
 rintro e w1 ⟨⟨i,rfl,hi⟩,hb1⟩
 go_wp2_with fail
 go_ret
 exact ⟨by rw [←hi];rfl,hb1⟩
set_option maxHeartbeats 4000000 in
theorem indexI63 (G:Nat) (p:Int→Bool) (A:Option Addr) (n c:Nat) (l:List Int) (w:World) (hl:Ints w A n l) (hn:n≤1000000000) (CF:∀ x ∈ l,∀ w',Below w.heap.size w w'→Calls Try.prog 63 #[.int .i64 x,.pointer (some ⟨G,0,none⟩)] w' fun e w''=>e=.returned (.bool (p x))∧Below w'.heap.size w' w'') :
  Calls Try.prog 66 #[.slice A n c,.func (.func 63) #[] #[.pointer (some ⟨G,0,none⟩)]] w fun e w'=>(∃ i:Int,e=.returned (.int .i64 i)∧(decide (0≤i))=l.any p)∧Below w.heap.size w w':=by
 go_enter Try.func66,Try.ntmps66
 go_wp2_with fail
 go_loopw [8] (fun vi wr=>∃ k:Nat,vi=.int .i64 k∧k≤n∧Hid (l.any p=(l.drop k).any p)∧Below w.heap.size w wr) (fun vi _=>n - (intOf vi).toNat)
 case atStart=>exact ⟨0,rfl,by omega,by show _=_;rw [List.drop_zero],Below.refl _ _⟩
 case round =>
  obtain ⟨k,rfl,hk,hr,hW⟩:=hrel
  by_cases hlt:k < n
  ·obtain ⟨ad,x,rfl,hg,c0⟩:=(hl.below hW).at_ hlt
   have HS:=Lib.hid (drop_any (p:=p) hg)
   have CB:=CF x (List.mem_of_getElem? hg) wr hW
   obtain ⟨r9,hr9⟩:∃ r9,r9=p x:=⟨_,rfl⟩
   try rw [show p x=r9 from hr9.symm] at CB
   have HR9:=Lib.hid hr9
   have k0:(0:Int)≤(k:Int):=by omega
   have k1:(k:Int) < (n:Int):=by omega
   clear hg hr9
   go_wp2_with fail
   refine CB.mono ?_
   rintro e w1 ⟨rfl,hW1⟩
   have hW2:=bel hW hW1
   clear CB
   cases r9
   ·go_wp2_with fail
    go_roundw
    case rel=>exact ⟨k + 1,by go_num,by omega,by show _=_;rw [hr.out,HS.out,←HR9.out];rfl,hW2⟩
    case measure=>simp [intOf];omega
   ·go_wp2_with fail
    go_ret
    exact ⟨⟨k,rfl,by rw [hr.out,HS.out,←HR9.out];simp⟩,hW2⟩
  ·have hd:l.drop k=[]:=List.drop_eq_nil_of_le (by rw [←hl.1];omega)
   have HD:=Lib.hid hd
   clear hd
   go_wp2_with fail
   go_ret
   exact ⟨⟨-1,rfl,by rw [hr.out,HD.out];rfl⟩,hW⟩
set_option maxHeartbeats 4000000 in
theorem containsI63 (G:Nat) (p:Int→Bool) (A:Option Addr) (n c:Nat) (l:List Int) (w:World) (hl:Ints w A n l) (hn:n≤1000000000) (CF:∀ x ∈ l,∀ w',Below w.heap.size w w'→Calls Try.prog 63 #[.int .i64 x,.pointer (some ⟨G,0,none⟩)] w' fun e w''=>e=.returned (.bool (p x))∧Below w'.heap.size w' w'') :
  Calls Try.prog 40 #[.slice A n c,.func (.func 63) #[] #[.pointer (some ⟨G,0,none⟩)]] w fun e w'=>e=.returned (.bool (l.any p))∧Below w.heap.size w w':=by
 have CI:=indexI63 G p A n c l w hl hn CF
 go_enter Try.func40,Try.ntmps40
 go_wp2_with fail
 refine CI.mono ?_
 rintro e w1 ⟨⟨i,rfl,hi⟩,hb1⟩
 go_wp2_with fail
 go_ret
 exact ⟨by rw [←hi];rfl,hb1⟩
set_option maxHeartbeats 4000000 in
theorem part1_any (G:Nat) (B:Option Addr) (m d:Nat) (b:List Int) (x:Int) (w:World) (hG:w.heap[G]? = some (.cells #[.slice B m d] 41 (0,0))) (hb:Ints w B m b) (hm:m≤1000000000) :
  Calls Try.prog 63 #[.int .i64 x,.pointer (some ⟨G,0,none⟩)] w fun e w'=>e=.returned (.bool (!(b.any (· == x))))∧Below w.heap.size w w':=by
 have c0:=blk_cell hG 0 _ rfl
 go_enter Try.func63,Try.ntmps63
 go_wp2_with fail
 refine (contains64_any B m d b x w hb hm).mono ?_
 rintro e w1 ⟨rfl,hb1⟩
 go_wp2_with fail
 go_ret
 exact ⟨rfl,hb1⟩
theorem A.part_eq (a b:List Int):(!(a.any fun x=>!(b.any (· == x))))=A.part a b:=by
 unfold A.part
 rw [List.all_eq_not_any_not]
set_option maxHeartbeats 4000000 in
theorem part32_any (E:Option Addr) (n c:Nat) (a:List Int) (B:Option Addr) (m d:Nat) (b:List Int) (w:World) (ha:Ints w E n a) (hn:n≤1000000000) (hb:Ints w B m b) (hm:m≤1000000000) :
  Calls Try.prog 38 #[.slice E n c,.slice B m d] w fun e w'=>e=.returned (.bool (A.part a b))∧Below w.heap.size w w':=by
 have b0:Below w.heap.size w (w.alloc (.cells #[.slice B m d] 41)):=(Below.refl _ _).alloc (Nat.le_refl _) _
 have hG:=heap_alloc_new w (.cells #[.slice B m d] 41)
 have CC:=containsI63 w.heap.size (fun x=>!(b.any (· == x))) E n c a (w.alloc (.cells #[.slice B m d] 41)) (ha.below b0) hn (fun x _ w' hb'=>part1_any w.heap.size B m d b x w' (blk_below hb' hG) ((hb.below b0).below hb') hm)
 go_enter Try.func38,Try.ntmps38
 go_wp2_with fail
 refine CC.mono ?_
 rintro e w1 ⟨rfl,hb1⟩
 go_wp2_with fail
 go_ret
 exact ⟨by rw [←A.part_eq];rfl,bel b0 hb1⟩
namespace K
theorem nodup_len {a:List Int} {n:Nat} (ha:a.Nodup) (hb:∀ z ∈ a,0≤z∧z < (n:Int)):a.length≤n:=by
 have:=len_sub (b:=iota n) ha fun z hz=>mem_iota.2 (hb z hz)
 unfold iota at this
 rw [List.length_map,List.length_range] at this
 exact this
end K
end Go.Proofs.Ytippdjmpkafifaa
namespace Go.Proofs.Ytippdjmpkafifaa
open Go.RowKit Go.Maps
def FewT (tn:Nat) (ts:List TV):Prop:=tn≤1000000000∧∀ y ∈ ts,y.n≤100000∧y.n'≤1000000000
end Go.Proofs.Ytippdjmpkafifaa
namespace Go.Proofs.Ytippdjmpkafifaa
open Go.RowKit
def Shs (w:World) (E:Option Addr) (n:Nat) (l:List Sh):Prop:=Lst (fun s=>[Sh.val s]) 1 w E n l∧∀ s ∈ l,Ints w s.A s.n s.l∧s.n≤s.c∧(s.A=none→s.n=0∧s.c=0)
theorem Shs.below {w w':World} {E:Option Addr} {n:Nat} {l:List Sh} (h:Shs w E n l) (hb:Below w.heap.size w w'):Shs w' E n l:=⟨Lst.below h.1 hb,fun s hs=>⟨(h.2 s hs).1.below hb,(h.2 s hs).2⟩⟩
theorem Shs.at_ {w:World} {E:Option Addr} {n k:Nat} {l:List Sh} (h:Shs w E n l) (hk:k < n):∃ ad s,E=some ad∧l[k]? = some s∧(Ints w s.A s.n s.l∧s.n≤s.c∧(s.A=none→s.n=0∧s.c=0))∧w.cell? (ad.add k)=some (.slice s.A s.n s.c):=by
 obtain ⟨ad,s,hA,hl,hc⟩:=Lst.get (f:=fun s=>[Sh.val s]) (s:=1) (fun _=>rfl) h.1 hk
 refine ⟨ad,s,hA,hl,h.2 s (List.mem_of_getElem? hl),?_⟩
 have:=hc 0 _ (by omega) rfl
 rwa [Nat.mul_one,Nat.add_zero] at this
structure BV where
 sh:Int
 V:Option Addr
 vn:Nat
 vc:Nat
 v:List Int
 LA:Option Addr
 ln:Nat
 lc:Nat
 lb:List Lb
def BV.cells (b:BV):List Value:=[.int .i64 b.sh,.slice b.V b.vn b.vc,.slice b.LA b.ln b.lc]
def Blks (w:World) (A:Option Addr) (n:Nat) (l:List BV):Prop:=Lst BV.cells 3 w A n l∧∀ b ∈ l,Ints w b.V b.vn b.v∧Labs w b.LA b.ln b.lb
theorem Blks.below {w w':World} {A:Option Addr} {n:Nat} {l:List BV} (h:Blks w A n l) (hb:Below w.heap.size w w'):Blks w' A n l:=⟨Lst.below h.1 hb,fun s hs=>⟨(h.2 s hs).1.below hb,Lst.below (h.2 s hs).2 hb⟩⟩
structure RowAt (w:World) (g n:Nat) (cur:Array Value) (l:List Sh):Prop where
 blk:w.heap[g]? = some (.cells cur 41 (0,0))
 len:n=l.length
 get:∀ (k:Nat) (s:Sh),l[k]? = some s→cur[k]? = some s.val
theorem RowAt.shs {w:World} {g n:Nat} {cur:Array Value} {l:List Sh} (h:RowAt w g n cur l) (hi:∀ s ∈ l,Ints w s.A s.n s.l∧s.n≤s.c∧(s.A=none→s.n=0∧s.c=0)):Shs w (some ⟨g,0,none⟩) n l:=by
 refine ⟨⟨h.len,?_,fun h0=>⟨_,rfl,fun j u hu=>?_⟩⟩,hi⟩
 ·rw [flat_len (fun s=>[Sh.val s]) 1 (fun _=>rfl),←h.len]
 ·rw [add_zero_block]
  have e:(l.flatMap fun s=>[Sh.val s])=l.map Sh.val:=by
   clear hu h hi h0
   induction l with
   | nil=>rfl
   | cons a l ih=>rw [List.flatMap_cons,ih];rfl
  rw [e,List.getElem?_map] at hu
  cases hs:l[j]? with
  | none=>rw [hs] at hu;cases hu
  | some s =>
   rw [hs] at hu
   injection hu with hu
   exact blk_cell h.blk j u (by rw [←hu];exact h.get j s hs)
theorem row_own {w:World} {base n:Nat} {v:Value} {l:List Sh} (h:w.ownsRow base 41 1 v n (l.map Sh.val)) (h0:0 < n):∃ g cap cur,v=.slice (some ⟨g,0,none⟩) n cap∧base≤g∧n≤cap∧RowAt w g n cur l:=by
 obtain ⟨hl,⟨e,e0⟩ | ⟨g,cap,cur,e,hb,hh,hnc,-,-,ht⟩⟩:=h
 ·omega
 ·refine ⟨g,cap,cur,e,hb,hnc,hh,by simpa using hl.symm,fun k s hk=>?_⟩
  have hkl:=(List.getElem?_eq_some_iff.1 hk).1
  have h9:(cur.toList.take (n * 1))[k]? = some s.val:=by rw [ht,List.getElem?_map,hk];rfl
  rw [List.getElem?_take] at h9
  split at h9
  ·simpa using h9
  ·cases h9
def BV.pr (b:BV):Int × List Int × List Lb:=(b.sh,b.v,b.lb)
def FewB (bn:Nat) (bl:List BV):Prop:=bn≤1000000000∧∀ b ∈ bl,b.vn≤b.vc∧b.vn≤1000000000∧b.ln≤1000000000
namespace A
theorem combos_few_all:∀ b:Fin 7,∀ n:Fin 7,∀ f:Fin 8,(combos b.val n.val f.val).length≤64:=by decide +kernel
theorem combos_few {b n f:Nat} (hb:b≤6) (hn:n≤6) (hf:f≤7):(combos b n f).length≤64:=combos_few_all ⟨b,by omega⟩ ⟨n,by omega⟩ ⟨f,by omega⟩
theorem range_snoc (f k:Nat):List.range' f (k + 1)=List.range' f k ++ [f + k]:=by rw [List.range'_concat];simp
end A
def NewL (B:Nat) (L:List Sh):Prop:=∀ s ∈ L,0 < s.n→∀ ad,s.A=some ad→B≤ad.block
def RetSets (w w':World) (L:List (List Int)) (e:Ending):Prop:=(∃ E m c l,e=.returned (.slice E m c)∧Shs w' E m l∧m≤c∧l.map Sh.l=L∧(∀ ad,E=some ad→w.heap.size≤ad.block)∧NewL w.heap.size l)∧Below w.heap.size w w'
def RowOk (w:World) (v:Value) (L:List Sh):Prop:=∀ s ∈ L,(Ints w s.A s.n s.l∧s.n≤s.c∧(s.A=none→s.n=0∧s.c=0))∧(0 < s.n→∀ ad,s.A=some ad→v.ownBlock ≠ some ad.block)
theorem RowOk.below {w w':World} {v:Value} {L:List Sh} (h:RowOk w v L) (hb:Below w.heap.size w w'):RowOk w' v L:=fun s hs=>⟨⟨(h s hs).1.1.below hb,(h s hs).1.2⟩,(h s hs).2⟩
theorem own_shs {w:World} {base n:Nat} {v:Value} {L:List Sh} (h:w.ownsRow base 41 1 v n (L.map Sh.val)) (hn:n=L.length) (ho:RowOk w v L):∃ E c,v=.slice E n c∧Shs w E n L∧n≤c∧∀ ad,E=some ad→base≤ad.block:=by
 have hnw:∀ E c,v=.slice E n c→∀ ad,E=some ad→base≤ad.block:=fun E c e ad e2=>by
  obtain ⟨-,-,-,-,h3⟩:=own_form h
  exact (h3 ad.block (by rw [e,e2];rfl)).1
 rcases Nat.eq_zero_or_pos n with h0 | h0
 ·obtain ⟨A,c,e,hR,-⟩:=own_form h
  have hc:n≤c:=by omega
  have hL:L=[]:=List.length_eq_zero_iff.1 (by omega)
  exact ⟨A,c,e,⟨⟨hn,by rw [hL];simp [h0],fun h=>absurd h (by omega)⟩,fun s hs=>(ho s hs).1⟩,hc,hnw _ _ e⟩
 ·obtain ⟨g,cap,cur,e,-,hc,hr⟩:=row_own h h0
  exact ⟨_,cap,e,hr.shs fun s hs=>(ho s hs).1,hc,hnw _ _ e⟩
theorem app_shs {ops:Array Oper} {rest:List Oper} {o:Oper} {a:Act} {Q:Exit→Act→World→Prop} {w:World} (hgd:o.guard=none) (s x:Operand)
  (ho:o.op=.call { callee:=.builtin .append,args:=#[s,x],argTypes:=#[79,79] })
  (base:Nat) (v:Value) (n:Nat) (L:List Sh) (hs:a.eval s=v) (hown:w.ownsRow base 41 1 v n (L.map Sh.val)) (g:Nat) (y:Sh) (hx:a.eval x=.slice (some ⟨g,0,none⟩) 1 1)
  (hg:w.heap[g]? = some (.cells #[.slice y.A y.n y.c] 41 (0,0))) (hn:n≤1000000) (hbase:base≤w.heap.size)
  (h:∀ v' w',w'.ownsRow base 41 1 v' (n + 1) ((L ++ [y]).map Sh.val)→w.grownBy w' v.ownBlock→(v'.ownBlock=v.ownBlock∨v'.ownBlock=some w.heap.size)→wpList Try.prog ops Q rest (a.put o.dst v') w') :
  wpList Try.prog ops Q (o :: rest) a w:=by
 obtain ⟨i0,hi,hz0,hz1,hz2⟩:=info_parts Try.info41
 refine wpList_append_own_at w hgd s x 79 ho base 41 i0 (.slice none 0 0) 1 24 Try.underlying79 hi hz0 hz1 hz2 rfl (by decide) v n (L.map Sh.val) hs hown ⟨g,0,none⟩ 1 1 [y.val] hx rfl ?_ ?_ ?_ ?_ hbase ?_
 ·intro j u hu
  rw [add_zero_block]
  exact blk_cell hg j u (by simpa [Sh.val] using hu)
 ·intro u hu
  simp at hu
  subst hu;rfl
 ·simp only [maxLen];omega
 ·omega
 ·intro v' w' h2 h3 _ h5
  exact h v' w' (by rw [List.map_append];exact h2) h3 h5
theorem RowOk.grow {w w':World} {v v':Value} {L:List Sh} (h:RowOk w v L) (hg:w.grownBy w' v.ownBlock) (ha:v'.ownBlock=v.ownBlock∨v'.ownBlock=some w.heap.size):RowOk w' v' L:=fun s hs=>by
 obtain ⟨⟨h1,h2⟩,h3⟩:=h s hs
 refine ⟨⟨h1.grow hg fun h0 ad e e2=>h3 h0 ad e e2.symm,h2⟩,fun h0 ad e e2=>?_⟩
 rcases ha with e3 | e3
 ·rw [e3] at e2;exact h3 h0 ad e e2
 ·rw [e3] at e2
  injection e2 with e2
  have:=h1.lt_of h0 e
  omega
theorem RowOk.snoc {w:World} {v:Value} {L:List Sh} (h:RowOk w v L) {y:Sh} (h1:Ints w y.A y.n y.l∧y.n≤y.c∧(y.A=none→y.n=0∧y.c=0)) (h2:0 < y.n→∀ ad,y.A=some ad→v.ownBlock ≠ some ad.block):RowOk w v (L ++ [y]):=fun s hs=>by
 rcases List.mem_append.1 hs with hs | hs
 ·exact h s hs
 ·rw [List.mem_singleton] at hs
  rw [hs]
  exact ⟨h1,h2⟩
theorem Shs.grown {w w':World} {E:Option Addr} {n:Nat} {l:List Sh} {r:Option Nat} (h:Shs w E n l) (hg:w.grownBy w' r) (hE:0 < n→∀ ad,E=some ad→some ad.block ≠ r) (hs:∀ s ∈ l,0 < s.n→∀ ad,s.A=some ad→some ad.block ≠ r):Shs w' E n l:=by
 refine ⟨⟨h.1.1,h.1.2.1,fun h0=>?_⟩,fun s hm=>⟨(h.2 s hm).1.grow hg (hs s hm),(h.2 s hm).2⟩⟩
 obtain ⟨ad,e,hc⟩:=h.1.2.2 h0
 refine ⟨ad,e,fun j u hu=>?_⟩
 have c:=hc j u hu
 exact (World.cell?_of_block (hg.block _ (cell_lt c) (by rw [add_block];exact hE h0 ad e))).trans c
theorem NewL.mono {B C:Nat} {L:List Sh} (h:NewL B L) (hc:C≤B):NewL C L:=fun s hs h0 ad e=>Nat.le_trans hc (h s hs h0 ad e)
theorem NewL.snoc {B:Nat} {L:List Sh} {y:Sh} (h:NewL B L) (hy:0 < y.n→∀ ad,y.A=some ad→B≤ad.block):NewL B (L ++ [y]):=fun s hs=>by
 rcases List.mem_append.1 hs with hs | hs
 ·exact h s hs
 ·rw [List.mem_singleton] at hs
  rw [hs];exact hy
set_option maxRecDepth 100000 in
theorem wp_pre {ops:Array Oper} {rest:List Oper} {o:Oper} {a:Act} {w w2:World} {Q:Exit→Act→World→Prop} (hgd:o.guard=none) (s x:Operand)
  (ho:o.op=.call { callee:=.builtin .append,args:=#[s,x],argTypes:=#[41,41] })
  (g:Nat) (i:Int) (hs:a.eval s=.slice (some ⟨g,0,none⟩) 1 1) (hg:w.heap[g]? = some (.cells #[.int .i64 i] 3 (0,0))) (hb2:Below w2.heap.size w2 w) (hbg:w2.heap.size≤g)
  {A:Option Addr} {m c:Nat} {l:List Int} (hx:a.eval x=.slice A m c) (hI:Ints w2 A m l) (hm:m≤1000000)
  (h:∀ B c w',Ints w' (some B) (m + 1) (i :: l)→m + 1≤c→Below w2.heap.size w2 w'→w2.heap.size≤B.block→wpList Try.prog ops Q rest (a.put o.dst (.slice (some B) (m + 1) c)) w') :
  wpList Try.prog ops Q (o :: rest) a w:=by
 obtain ⟨i0,hi,hz0,hz1,hz2⟩:=info_parts Try.info3
 have hown:w.ownsRow w2.heap.size 3 1 (.slice (some ⟨g,0,none⟩) 1 1) 1 [.int .i64 i]:=⟨rfl,.inr ⟨g,1,_,rfl,hbg,hg,Nat.le_refl _,by simp [maxLen],rfl,rfl⟩⟩
 refine wp_append_rd hgd s x 41 ho w2.heap.size 3 i0 (.int .i64 0) 1 8 Try.underlying41 hi hz0 hz1 hz2 rfl (by decide) _ 1 [.int .i64 i] hs hown A m c (intCells l) hx (hI.below hb2).2 (fun u hu=>?_) (by simp only [maxLen];omega) (by omega) hb2.size fun v' w' h2 h3 h4=>?_
 ·obtain ⟨z,-,rfl⟩:=List.mem_map.1 hu
  rfl
 ·have e:1 + m=m + 1:=by omega
  rw [e] at h2
  have h2':w'.ownsRow w2.heap.size 3 1 v' (m + 1) (intCells (i :: l)):=h2
  obtain ⟨-,⟨-,e0⟩ | ⟨g',cap,cur,rfl,hb',hh,hnc,-⟩⟩:=h2
  ·omega
  ·obtain ⟨A',c',e',hI'⟩:=own_ints h2' (by rw [List.length_cons,←hI.1])
   injection e' with e1 e2 e3
   subst e1 e3
   exact h _ _ w' hI' hnc (below_own hb2 (Nat.le_refl _) h3 fun g' e=>(by have e:some g=some g':=e;injection e with e;omega)) hb'
set_option maxRecDepth 100000 in
set_option maxHeartbeats 16000000 in
theorem sets35_any (b:Nat) (hb6:b≤6):∀ (n f:Nat) (w:World),n≤6→f≤7→Calls Try.prog 35 #[.int .i64 f,.int .i64 b,.int .i64 n] w fun e w'=>RetSets w w' (A.combos b n f) e:=by
 intro n
 induction n with
 | zero =>
  intro f w _ hf
  have hd:decide ((0:Int)=0)=true:=rfl
  go_enter Try.func35,Try.ntmps35
  go_wp2_with fail
  go_ret
  have hr:RowAt (w.alloc (.cells #[.slice none 0 0] 41)) w.heap.size 1 #[.slice none 0 0] [⟨none,0,0,[]⟩]:=⟨heap_alloc_new _ _,rfl,fun k s hk=>by
   cases k with
   | zero=>simp at hk;subst hk;rfl
   | succ k=>simp at hk⟩
  exact ⟨⟨_,1,1,[⟨none,0,0,[]⟩],rfl,hr.shs fun s hs=>by rw [List.mem_singleton] at hs;rw [hs];exact ⟨ints_nil _,Nat.le_refl _,fun _=>⟨rfl,rfl⟩⟩,Nat.le_refl _,rfl,fun ad e=>(by injection e with e;rw [←e];exact Nat.le_refl _),fun s hs h0=>(by rw [List.mem_singleton] at hs;rw [hs] at h0;exact absurd h0 (by simp))⟩,(Below.refl _ _).alloc (Nat.le_refl _) _⟩
 | succ n ih =>
  intro f w hn hf
  have hd:decide (((n + 1:Nat):Int)=0)=false:=by simp;omega
  have hd2:(((n + 1:Nat):Int) == 0)=false:=by simp;omega
  obtain ⟨N,hNn⟩:∃ N,N=n + 1:=⟨_,rfl⟩
  rw [←hNn] at hd hd2 ⊢
  have kN:IntKind.i64.wrap ((N:Int) - 1)=(n:Int):=by rw [IntWalk.i64_in _ (by omega)];omega
  have HC:=Lib.hid (show A.combos b N f=(List.range' f (b - f)).flatMap fun i=>(A.combos b n (i + 1)).map ((i:Int) :: ·) by rw [hNn];rfl)
  have hN0:((N:Int)=0)=False:=by simp;omega
  clear hNn
  go_enter Try.func35,Try.ntmps35
  go_wp2_with fail
  clear hd hd2 hN0
  go_loopw [7,8] (fun v7 v8 wr=>∃ (i:Nat) (L:List Sh),v8=.int .i64 i∧f≤i∧(i≤b∨i=f)∧wr.ownsRow w.heap.size 41 1 v7 L.length (L.map Sh.val)∧RowOk wr v7 L∧NewL w.heap.size L∧Below w.heap.size w wr∧L.length≤64 * (i - f)∧Hid (L.map Sh.l=(List.range' f (i - f)).flatMap fun i=>(A.combos b n (i + 1)).map ((i:Int) :: ·))) (fun _ v8 _=>b - (intOf v8).toNat)
  case atStart=>exact ⟨f,[],rfl,Nat.le_refl _,.inr rfl,World.ownsRow_nil _ _ _ _,fun s hs=>(by cases hs),fun s hs=>(by cases hs),Below.refl _ _,Nat.zero_le _,by show _=_;rw [Nat.sub_self];rfl⟩
  case round =>
   obtain ⟨i,L,rfl,hfi,hib,hown,hro,hnw,hbr,hll,hcl⟩:=hrel
   by_cases hlt:i < b
   ·obtain ⟨i1,hi1⟩:∃ i1,i1=i + 1:=⟨_,rfl⟩
    have ki:IntKind.i64.wrap ((i:Int) + 1)=(i1:Int):=by rw [IntWalk.i64_in _ (by omega)];omega
    have CS:=ih i1 wr (by omega) (by omega)
    have HI1:=Lib.hid hi1
    have hi7:i1≤6:=by omega
    obtain ⟨D,hD⟩:∃ D,D=A.combos b n i1:=⟨_,rfl⟩
    have hDl:D.length≤64:=by rw [hD];exact A.combos_few hb6 (by omega) (by omega)
    rw [←hD] at CS
    have HD:=Lib.hid hD
    clear hi1 hD
    go_wp2_with fail
    refine CS.mono ?_
    rintro e w2 ⟨⟨E,m,c,l,rfl,hSl,hmc,hlD,hEn,hln⟩,b2⟩
    have hml:m≤64:=by rw [hSl.1.1,←List.length_map (f:=Sh.l),hlD];exact hDl
    have hl6:∀ s ∈ l,s.n≤6:=fun s hs=>by
     rw [(hSl.2 s hs).1.1]
     have h9:s.l ∈ A.combos b n i1:=by rw [←HD.out,←hlD];exact List.mem_map_of_mem hs
     have:=(A.mem_combos.1 h9).1
     omega
    have FE:0 < m→∀ ad,E=some ad→wr.heap.size≤ad.block∧ad.block < w2.heap.size:=fun h0 ad e=>by
     obtain ⟨ad',s,e',-,-,hc⟩:=hSl.at_ h0
     rw [e] at e'
     injection e' with e'
     exact ⟨hEn ad e,by rw [e'];exact cell_lt hc⟩
    have FL:∀ s ∈ l,0 < s.n→∀ ad,s.A=some ad→wr.heap.size≤ad.block∧ad.block < w2.heap.size:=fun s hs h0 ad e=>⟨hln s hs h0 ad e,(hSl.2 s hs).1.lt_of h0 e⟩
    have hob:∀ g,u7.ownBlock=some g→g < wr.heap.size:=fun g e=>(own_in hown g e).2
    have hown2:=own_below hown b2
    have hro2:=hro.below b2
    have hb2:=bel hbr b2
    have hwr2:=b2.size
    clear CS hown hro hbr b2 hEn hln
    go_wp2_with fail
    obtain ⟨W2,hW2⟩:∃ z,z=w2.heap.size:=⟨_,rfl⟩
    obtain ⟨WQ,hWQ⟩:∃ z,z=wr.heap.size:=⟨_,rfl⟩
    rw [←hW2,←hWQ] at FE FL hwr2
    rw [←hWQ] at hob
    go_loopw [7,27] (fun v7 v27 wi=>∃ (j:Nat) (L':List Sh),v27=.int .i64 j∧j≤m∧wi.ownsRow w.heap.size 41 1 v7 L'.length (L'.map Sh.val)∧RowOk wi v7 L'∧NewL w.heap.size L'∧Below w.heap.size w wi∧W2≤wi.heap.size∧L'.length=L.length + j∧Shs wi E m l∧(∀ g,v7.ownBlock=some g→g < WQ∨W2≤g)∧Hid (L'.map Sh.l=L.map Sh.l ++ (l.take j).map fun s=>(i:Int) :: s.l)) (fun _ v27 _=>m - (intOf v27).toNat)
    case atStart=>exact ⟨0,L,rfl,Nat.zero_le _,hown2,hro2,hnw,hb2,Nat.le_of_eq hW2,rfl,hSl,fun g e=>.inl (hob g e),by show _=_;rw [List.take_zero];simp⟩
    case round =>
     obtain ⟨j,L',rfl,hj,hownI,hroI,hnwI,hbI,hWI,hlI,hSI,hobI,hcI⟩:=hrel
     by_cases hjm:j < m
     ·obtain ⟨ad,s,rfl,hg,⟨hI,hsc,hs0⟩,hc⟩:=hSI.at_ hjm
      have j0:decide ((j:Int) < (m:Int))=true:=by simp;omega
      have js:IntKind.i64.wrap ((j:Int) + 1)=((j + 1:Nat):Int):=by rw [IntWalk.i64_in _ (by omega)];omega
      have hsm:=List.mem_of_getElem? hg
      have h6:=hl6 s hsm
      have HG:=Lib.hid hg
      have H6:=Lib.hid h6
      have hn9:s.n≤1000000:=by omega
      have hn8:L'.length≤1000000:=by omega
      have bA:Below wr.heap.size wr (wr.alloc (.cells #[.int .i64 i] 3)):=(Below.refl _ _).alloc (Nat.le_refl _) _
      have h7:∀ g,u7.ownBlock=some g→w.heap.size≤g∧g < wr.heap.size:=fun g e=>own_in hownI g e
      have HLI:=Lib.hid hlI
      clear hg h6 hlI
      go_wp2_with (first
       | (at_builtin;refine wp_pre rfl (.tmp 33) (.tmp 34) rfl wr.heap.size (i:Int) rfl (heap_alloc_new wr _) bA (Nat.le_refl _) rfl hI hn9 ?_;intro B c9 w9 hI9 hc9 hb9 hB9;have bx9:=bel hb9 ((Below.refl _ _).alloc (Nat.le_refl _) (.cells #[.slice (some B) (s.n + 1) c9] 41));have bs9:=(bel hbI bx9).size)
       | (at_builtin;refine app_shs rfl (.tmp 31) (.tmp 36) rfl w.heap.size u7 L'.length L' rfl (own_below hownI bx9) w9.heap.size ⟨some B,s.n + 1,c9,(i:Int) :: s.l⟩ rfl (heap_alloc_new w9 _) hn8 bs9 ?_;intro v' w10 hown10 hgrow10 hat10))
      have hBl:B.block < w9.heap.size:=hI9.lt_of (by omega) rfl
      have h9s:w9.heap.size≤(w9.alloc (.cells #[.slice (some B) (s.n + 1) c9] 41)).heap.size:=((Below.refl w9.heap.size w9).alloc (Nat.le_refl _) _).size
      have h9t:=hb9.size
      have h9u:=hgrow10.size
      go_roundw
      case rel =>
       refine ⟨j + 1,L' ++ [⟨some B,s.n + 1,c9,(i:Int) :: s.l⟩],by go_num,by omega,by rw [List.length_append];exact hown10,((hroI.below bx9).grow hgrow10 hat10).snoc ⟨(hI9.below ((Below.refl _ _).alloc (Nat.le_refl _) _)).grow hgrow10 fun _ ad e e2=>?_,hc9,fun e=>by cases e⟩ (fun _ ad e e2=>?_),hnwI.snoc (fun _ ad e=>?_),below_own (bel hbI bx9) (Nat.le_refl _) hgrow10 (fun g e=>(h7 g e).1),by omega,by rw [List.length_append,HLI.out];simp;omega,(hSI.below bx9).grown hgrow10 (fun h0 ad e e2=>?_) (fun t ht h0 ad e e2=>?_),fun g e=>?_,?_⟩
       ·injection e with e
        have:=(h7 _ e2.symm).2
        rw [←e] at this
        omega
       ·injection e with e
        rcases hat10 with e3 | e3
        ·rw [e3] at e2
         have:=(h7 _ e2).2
         rw [←e] at this
         omega
        ·rw [e3] at e2
         injection e2 with e2
         rw [←e] at e2
         omega
       ·injection e with e
        have:=hbI.size
        rw [←e]
        omega
       ·have a1:=FE h0 ad e
        have a2:=hobI _ e2.symm
        omega
       ·have a1:=FL t ht h0 ad e
        have a2:=hobI _ e2.symm
        omega
       ·rcases hat10 with e3 | e3
        ·rw [e3] at e
         exact hobI g e
        ·rw [e3] at e
         injection e with e
         omega
       ·show _=_
        rw [List.map_append,hcI.out,List.take_add_one,HG.out]
        simp
      case measure=>simp [intOf];omega
     ·have j0:decide ((j:Int) < (m:Int))=false:=by simp;omega
      have HLI:=Lib.hid hlI
      have HJ:=Lib.hid (show j=m by omega)
      clear hlI
      go_wp2_with fail
      go_roundw
      case rel =>
       have hm:m=l.length:=hSl.1.1
       refine ⟨i1,L',rfl,by rw [HI1.out];omega,.inl (by rw [HI1.out];omega),hownI,hroI,hnwI,hbI,by rw [HLI.out,HI1.out];omega,?_⟩
       show _=_
       have e:i1 - f=(i - f) + 1:=by rw [HI1.out];omega
       have e2:f + (i - f)=i:=by omega
       rw [hcI.out,HJ.out,hm,List.take_length,e,A.range_snoc,List.flatMap_append,←hcl.out,e2]
       rw [List.flatMap_singleton,←HI1.out,←HD.out,←hlD,List.map_map]
       rfl
      case measure=>simp [intOf];have:=HI1.out;omega
   ·have i0:decide ((i:Int) < (b:Int))=false:=by simp;omega
    go_wp2_with fail
    go_ret
    obtain ⟨E,c,rfl,hS,hc,hE⟩:=own_shs hown rfl hro
    refine ⟨⟨E,_,c,L,rfl,hS,hc,?_,hE,hnw⟩,hbr⟩
    rw [hcl.out,HC.out]
    congr 2
    omega
set_option maxHeartbeats 4000000 in
theorem refute1_any (G:Nat) (V:Option Addr) (vn vc:Nat) (v:List Int) (s:Sh) (w:World) (hG:w.heap[G]? = some (.cells #[.slice V vn vc] 41 (0,0))) (hs:Ints w s.A s.n s.l) (hn:s.n≤1000000000) (hV:Ints w V vn v) (hvn:vn≤1000000000) :
  Calls Try.prog 37 #[.slice s.A s.n s.c,.pointer (some ⟨G,0,none⟩)] w fun e w'=>e=.returned (.bool (A.part s.l v))∧Below w.heap.size w w':=by
 have c0:=blk_cell hG 0 _ rfl
 have CP:=part32_any s.A s.n s.c s.l V vn vc v w hs hn hV hvn
 go_enter Try.func37,Try.ntmps37
 go_wp2_with fail
 refine CP.mono ?_
 rintro e w1 ⟨rfl,hb1⟩
 go_wp2_with fail
 go_ret
 exact ⟨rfl,hb1⟩
set_option maxHeartbeats 4000000 in
theorem index62_any (G:Nat) (E:Option Addr) (n c:Nat) (shs:List Sh) (V:Option Addr) (vn vc:Nat) (v:List Int) (w:World) (hl:Shs w E n shs) (hn:n≤1000000000) (hG:w.heap[G]? = some (.cells #[.slice V vn vc] 41 (0,0))) (h6:∀ s ∈ shs,s.n≤1000000000) (hV:Ints w V vn v) (hvn:vn≤1000000000) :
  Calls Try.prog 62 #[.slice E n c,.func (.func 37) #[] #[.pointer (some ⟨G,0,none⟩)]] w fun e w'=>(∃ i:Int,e=.returned (.int .i64 i)∧(decide (0≤i))=shs.any (fun s=>A.part s.l v))∧Below w.heap.size w w':=by
 go_enter Try.func62,Try.ntmps62
 go_wp2_with fail
 go_loopw [8] (fun vi wr=>∃ k:Nat,vi=.int .i64 k∧k≤n∧Hid (shs.any (fun s=>A.part s.l v)=(shs.drop k).any (fun s=>A.part s.l v))∧Below w.heap.size w wr) (fun vi _=>n - (intOf vi).toNat)
 case atStart=>exact ⟨0,rfl,by omega,by show _=_;rw [List.drop_zero],Below.refl _ _⟩
 case round =>
  obtain ⟨k,rfl,hk,hr,hW⟩:=hrel
  by_cases hlt:k < n
  ·obtain ⟨ad,s,rfl,hg,⟨hI,-⟩,c0⟩:=(hl.below hW).at_ hlt
   have HS:=Lib.hid (drop_any (p:=fun s:Sh=>A.part s.l v) hg)
   have CB:=refute1_any G V vn vc v s wr (blk_below hW hG) hI (h6 s (List.mem_of_getElem? hg)) (hV.below hW) hvn
   obtain ⟨r9,hr9⟩:∃ r9,r9=A.part s.l v:=⟨_,rfl⟩
   rw [←hr9] at CB
   have HR9:=Lib.hid hr9
   have k0:(0:Int)≤(k:Int):=by omega
   have k1:(k:Int) < (n:Int):=by omega
   clear hg hr9 hI
   go_wp2_with fail
   refine CB.mono ?_
   rintro e w1 ⟨rfl,hW1⟩
   have hW2:=bel hW hW1
   clear CB
   cases r9
   ·go_wp2_with fail
    go_roundw
    case rel=>exact ⟨k + 1,by go_num,by omega,by show _=_;rw [hr.out,HS.out,←HR9.out];rfl,hW2⟩
    case measure=>simp [intOf];omega
   ·go_wp2_with fail
    go_ret
    exact ⟨⟨k,rfl,by rw [hr.out,HS.out,←HR9.out];simp⟩,hW2⟩
  ·have hd:shs.drop k=[]:=List.drop_eq_nil_of_le (by rw [←hl.1.1];omega)
   have HD:=Lib.hid hd
   clear hd
   go_wp2_with fail
   go_ret
   exact ⟨⟨-1,rfl,by rw [hr.out,HD.out];rfl⟩,hW⟩
set_option maxHeartbeats 4000000 in
theorem contains36_any (G:Nat) (E:Option Addr) (n c:Nat) (shs:List Sh) (V:Option Addr) (vn vc:Nat) (v:List Int) (w:World) (hl:Shs w E n shs) (hn:n≤1000000000) (hG:w.heap[G]? = some (.cells #[.slice V vn vc] 41 (0,0))) (h6:∀ s ∈ shs,s.n≤1000000000) (hV:Ints w V vn v) (hvn:vn≤1000000000) :
  Calls Try.prog 36 #[.slice E n c,.func (.func 37) #[] #[.pointer (some ⟨G,0,none⟩)]] w fun e w'=>e=.returned (.bool ((shs.map Sh.l).any fun u=>A.part u v))∧Below w.heap.size w w':=by
 have CI:=index62_any G E n c shs V vn vc v w hl hn hG h6 hV hvn
 go_enter Try.func36,Try.ntmps36
 go_wp2_with fail
 refine CI.mono ?_
 rintro e w1 ⟨⟨i,rfl,hi⟩,hb1⟩
 go_wp2_with fail
 go_ret
 exact ⟨by rw [List.any_map];show _=Ending.returned (.bool (shs.any fun s=>A.part s.l v));rw [←hi];rfl,hb1⟩
namespace A
theorem ownGo_append {ok:List Int→Bool}:∀ (L1 own L2:List (List Int)),ownGo ok own (L1 ++ L2)=ownGo ok (ownGo ok own L1) L2
 | [],_,_=>rfl
 | v :: L1,own,L2=>by
  rw [List.cons_append,ownGo,ownGo]
  exact ownGo_append L1 _ L2
theorem ownGo_yes {ok:List Int→Bool} {own L:List (List Int)} {v:List Int} (h:((ownGo ok own L).any fun u=>part u v)=false) (h2:ok v=false):ownGo ok own (L ++ [v])=ownGo ok own L ++ [v]:=by
 rw [ownGo_append,ownGo,ownGo,h,h2]
 rfl
theorem ownGo_no {ok:List Int→Bool} {own L:List (List Int)} {v:List Int} (h:((ownGo ok own L).any fun u=>part u v)=true∨ok v=true):ownGo ok own (L ++ [v])=ownGo ok own L:=by
 rw [ownGo_append,ownGo,ownGo]
 rcases h with h | h <;> rw [h] <;> simp
def upto (n k:Nat):List (List Int):=(List.range k).flatMap fun k=>combos n (k + 1) 0
theorem upto_succ (n k:Nat):upto n (k + 1)=upto n k ++ combos n (k + 1) 0:=by unfold upto;rw [List.range_succ,List.flatMap_append,List.flatMap_singleton]
end A
namespace K
section
variable {nd : Int} {l : List Ro} {ss : List S} {r : List Q}
theorem plan_four (h:(plan nd l ss r).2=4):pcheck nd l ss r=0:=by
 unfold plan at h
 split at h
 ·assumption
 ·rename_i h1
  exfalso
  have h:pcheck nd l ss r=4:=h
  unfold pcheck at h
  split at h
  ·split at h <;> cases h
  ·cases h
theorem refute_zero (h:(plan nd l ss r).2=0):refute nd l ss r=([],7):=by unfold refute;rw [if_pos h]
theorem refute_other (h:(plan nd l ss r).2 ≠ 0) (h2:(plan nd l ss r).2 ≠ 4):refute nd l ss r=([],(plan nd l ss r).2):=by unfold refute;rw [if_neg h,if_neg h2]
theorem refute_four (h:(plan nd l ss r).2=4):refute nd l ss r=((sets32 nd l ss r).map (blk32 nd l ss r),0):=by unfold refute;rw [if_neg (by rw [h];decide),if_pos h]
theorem labs_len6 {s:S} {v:List Int} (h:v.length≤6):(labs nd l s r v).length≤384:=by
 unfold labs
 split
 ·refine Nat.le_trans (tabLabs_len _ _ _) ?_
  have:2 ^ v.length≤2 ^ 6:=Nat.pow_le_pow_right (by omega) h
  exact Nat.le_trans (Nat.mul_le_mul this h) (by decide)
 ·exact Nat.zero_le _
def blksUpto (nd:Int) (l:List Ro) (ss:List S) (r:List Q) (s:Nat):List (Int × List Int × List Lb):=(List.range s).flatMap fun s=>(A.own (feas nd l ss r s) r.length).map fun v=>((s:Int),(blk32 nd l ss r (s,v)).2)
theorem blksUpto_succ (s:Nat):blksUpto nd l ss r (s + 1)=blksUpto nd l ss r s ++ (A.own (feas nd l ss r s) r.length).map fun v=>((s:Int),(blk32 nd l ss r (s,v)).2):=by unfold blksUpto;rw [List.range_succ,List.flatMap_append,List.flatMap_singleton]
theorem blksUpto_all:((sets32 nd l ss r).map (blk32 nd l ss r)).map (fun b=>((b.1:Int),b.2))=blksUpto nd l ss r ss.length:=by
 unfold sets32 blksUpto
 rw [List.map_map,List.map_flatMap]
 congr 1
 funext s
 rw [List.map_map]
 rfl
end
end K
theorem Shs.ext {w w':World} {E:Option Addr} {n:Nat} {l:List Sh} (h:Shs w E n l) (he:Ext w w'):Shs w' E n l:=⟨Lst.ext h.1 he,fun s hs=>⟨(h.2 s hs).1.ext he,(h.2 s hs).2⟩⟩
theorem RowOk.ext {w w':World} {v:Value} {L:List Sh} (h:RowOk w v L) (he:Ext w w'):RowOk w' v L:=fun s hs=>⟨⟨(h s hs).1.1.ext he,(h s hs).1.2⟩,(h s hs).2⟩
def OffRow (E:Option Addr) (m:Nat) (v:Value):Prop:=0 < m→∀ ad,E=some ad→v.ownBlock ≠ some ad.block
theorem OffRow.grow {w:World} {v v':Value} {E:Option Addr} {m:Nat} {l:List Sh} (h:OffRow E m v) (hS:Shs w E m l) (ha:v'.ownBlock=v.ownBlock∨v'.ownBlock=some w.heap.size):OffRow E m v':=fun h0 ad e e2=>by
 rcases ha with e3 | e3
 ·rw [e3] at e2;exact h h0 ad e e2
 ·rw [e3] at e2
  injection e2 with e2
  obtain ⟨ad',s,e',-,-,hc⟩:=hS.at_ h0
  rw [e] at e'
  injection e' with e'
  subst e'
  have:=cell_lt hc
  rw [add_block] at this
  omega
def BlOk (w:World) (v:Value) (bl:List BV):Prop:=∀ y ∈ bl,(Ints w y.V y.vn y.v∧Labs w y.LA y.ln y.lb)∧OffRow y.V y.vn v∧OffRow y.LA y.ln v∧(y.vn≤y.vc∧y.vn≤6∧y.ln≤384)
theorem BlOk.ext {w w':World} {v:Value} {bl:List BV} (h:BlOk w v bl) (he:Ext w w'):BlOk w' v bl:=fun y hy=>⟨⟨(h y hy).1.1.ext he,Lst.ext (h y hy).1.2 he⟩,(h y hy).2⟩
theorem BlOk.below {w w':World} {v:Value} {bl:List BV} (h:BlOk w v bl) (hb:Below w.heap.size w w'):BlOk w' v bl:=h.ext (Ext.below hb)
theorem Labs.grow {w w':World} {A:Option Addr} {n:Nat} {l:List Lb} {r:Option Nat} (h:Labs w A n l) (hg:w.grownBy w' r) (hne:0 < n→∀ ad,A=some ad→some ad.block ≠ r):Labs w' A n l:=by
 refine ⟨h.1,h.2.1,fun h0=>?_⟩
 obtain ⟨ad,e,hc⟩:=h.2.2 h0
 refine ⟨ad,e,fun j u hu=>?_⟩
 have c:=hc j u hu
 exact (World.cell?_of_block (hg.block _ (cell_lt c) (by rw [add_block];exact hne h0 ad e))).trans c
theorem Labs.lt_of {w:World} {A:Option Addr} {n:Nat} {l:List Lb} (h:Labs w A n l) (h0:0 < n) {ad:Addr} (e:A=some ad):ad.block < w.heap.size:=by
 obtain ⟨ad',e',hc⟩:=h.2.2 h0
 rw [e] at e'
 injection e' with e'
 have hl:0 < (l.flatMap labCells).length:=by rw [h.2.1];omega
 have:=cell_lt (hc 0 _ (List.getElem?_eq_getElem hl))
 rw [add_block,←e'] at this
 exact this
theorem BlOk.grow {w w':World} {v v':Value} {bl:List BV} (h:BlOk w v bl) (hg:w.grownBy w' v.ownBlock) (ha:v'.ownBlock=v.ownBlock∨v'.ownBlock=some w.heap.size):BlOk w' v' bl:=fun y hy=>by
 obtain ⟨⟨h1,h2⟩,h3,h4,h5⟩:=h y hy
 refine ⟨⟨h1.grow hg fun h0 ad e e2=>h3 h0 ad e e2.symm,h2.grow hg fun h0 ad e e2=>h4 h0 ad e e2.symm⟩,fun h0 ad e e2=>?_,fun h0 ad e e2=>?_,h5⟩
 ·rcases ha with e3 | e3
  ·rw [e3] at e2;exact h3 h0 ad e e2
  ·rw [e3] at e2
   injection e2 with e2
   have:=h1.lt_of h0 e
   omega
 ·rcases ha with e3 | e3
  ·rw [e3] at e2;exact h4 h0 ad e e2
  ·rw [e3] at e2
   injection e2 with e2
   have:=h2.lt_of h0 e
   omega
theorem BlOk.snoc {w:World} {v:Value} {bl:List BV} (h:BlOk w v bl) {y:BV} (h1:(Ints w y.V y.vn y.v∧Labs w y.LA y.ln y.lb)∧OffRow y.V y.vn v∧OffRow y.LA y.ln v∧(y.vn≤y.vc∧y.vn≤6∧y.ln≤384)):BlOk w v (bl ++ [y]):=fun s hs=>by
 rcases List.mem_append.1 hs with hs | hs
 ·exact h s hs
 ·rw [List.mem_singleton] at hs
  rw [hs];exact h1
theorem Try.info72:(Try.prog.info? 72).map (fun i=>(i.zero,i.size,i.bytes))=some (some (.agg #[.int .i64 0,.slice none 0 0,.slice none 0 0]),3,56):=by kernel_rfl
set_option maxRecDepth 100000 in
theorem step_app_blk {ops:Array Oper} {o:Oper} {a:Act} {w w2:World} {K:Act→World→Prop} {Q:Exit→Act→World→Prop} {E:Prop} (hgd:o.guard=none) (s x:Operand)
  (ho:o.op=.call { callee:=.builtin .append,args:=#[s,x],argTypes:=#[28,28] })
  {base:Nat} {v:Value} {n:Nat} {l:List BV} (hown:w2.ownsRow base 72 3 v n (l.flatMap BV.cells)) (hbase:base≤w2.heap.size) (hs:a.eval s=v) (g:Nat) (y:BV) (hx:a.eval x=.slice (some ⟨g,0,none⟩) 1 1)
  (hw:Below w2.heap.size w2 w) (hg:w.heap[g]? = some (.cells #[.int .i64 y.sh,.slice y.V y.vn y.vc,.slice y.LA y.ln y.lc] 72 (0,0))) (hn:n≤1000000)
  (h:∀ v' w',w'.ownsRow base 72 3 v' (n + 1) ((l ++ [y]).flatMap BV.cells)→w.grownBy w' v.ownBlock→(v'.ownBlock=v.ownBlock∨v'.ownBlock=some w.heap.size)→K (a.put o.dst v') w') :
  if Region.wanted o (yielded ops a.tmps)=true then Oper.wp Try.prog o a w K Q else E:=by
 obtain ⟨i0,hi,hz0,hz1,hz2⟩:=info_parts Try.info72
 refine step_append_rd hgd s x 28 ho base 72 i0 (.agg #[.int .i64 0,.slice none 0 0,.slice none 0 0]) 3 56 Try.underlying28 hi hz0 hz1 hz2 rfl (by decide) v n (l.flatMap BV.cells) hs (own_below hown hw) (some ⟨g,0,none⟩) 1 1 y.cells hx ⟨rfl,fun _=>⟨_,rfl,fun j u hu=>by rw [add_zero_block];exact blk_cell hg j u (by simpa [BV.cells] using hu)⟩⟩ (fun u hu=>?_) (by simp only [maxLen];omega) (by omega) (Nat.le_trans hbase hw.size) ?_
 ·simp [BV.cells] at hu
  rcases hu with rfl | rfl | rfl <;> rfl
 ·intro v' w' h2 h3 h4
  exact h v' w' (by rw [List.flatMap_append];simpa using h2) h3 h4
def RetRefute (w w':World) (p:List (Int × List Int × List Lb)) (er:Int) (e:Ending):Prop :=
 (∃ A n c bl,e=.returned (.tuple #[.slice A n c,.int .i64 er])∧Blks w' A n bl∧n≤c∧FewB n bl∧bl.map BV.pr=p)∧Below w.heap.size w w'
theorem PlAt.app {w0 w w':World} {b mb gb:Nat} {x:Cs} {X X':Nat→Prop} {shs:List Sh} {v v':Value} (h:PlAt w0 w b mb gb x X shs) (hg:w.grownBy w' v.ownBlock) (hv:∀ g,v.ownBlock=some g→X g) (ha:v'.ownBlock=v.ownBlock∨v'.ownBlock=some w.heap.size) (hX:∀ g,X' g→X g∨v'.ownBlock=some g):PlAt w0 w' b mb gb x X' shs:=by
 refine ((h.turn (Y:=fun g=>X g∨g=w.heap.size) (fun g h=>h.elim .inl fun e=>.inr (by rw [e];exact Nat.le_refl _))).own hg (fun g e=>.inl (hv g e))).turn fun g h=>.inl ?_
 rcases hX g h with h | h
 ·exact .inl h
 ·rcases ha with e | e
  ·rw [e] at h;exact .inl (hv g h)
  ·rw [e] at h;injection h with h;exact .inr h.symm
theorem gb_below {ws w w':World} {r:Option Nat} (h:ws.grownBy w r) (hb:Below w.heap.size w w'):ws.grownBy w' r:=h.andThen (row':=none) ⟨hb.os,hb.tape,hb.output,hb.size,fun q hq _=>hb.block q hq⟩ (fun _ e=>by cases e)
structure Mid (w1 ws w:World) (b mb gb:Nat) (x:Cs) (shs:List Sh) (u v:Value) (BS:Nat) (own:List Sh) (E:Option Addr) (m:Nat) (l:List Sh):Prop where
 row:w.ownsRow BS 41 1 v own.length (own.map Sh.val)
 ok:RowOk w v own
 pl:PlAt w1 w b mb gb x (fun g=>u.ownBlock=some g∨v.ownBlock=some g) shs
 gr:ws.grownBy w (some mb)
 sh:Shs w E m l
 off:OffRow E m v
 lk:RowOk w v l
theorem Mid.below {w1 ws w w':World} {b mb gb:Nat} {x:Cs} {shs:List Sh} {u v:Value} {BS:Nat} {own:List Sh} {E:Option Addr} {m:Nat} {l:List Sh} (h:Mid w1 ws w b mb gb x shs u v BS own E m l) (hb:Below w.heap.size w w'):Mid w1 ws w' b mb gb x shs u v BS own E m l :=
 ⟨own_below h.row hb,h.ok.below hb,h.pl.below hb,gb_below h.gr hb,h.sh.below hb,h.off,h.lk.below hb⟩
theorem Mid.best {w1 ws w w':World} {b mb gb:Nat} {x:Cs} {shs:List Sh} {u v:Value} {BS:Nat} {own:List Sh} {E:Option Addr} {m:Nat} {l:List Sh} (h:Mid w1 ws w b mb gb x shs u v BS own E m l) (hg:w.grownBy w' (some mb)) (hp:PlAt w1 w' b mb gb x (fun g=>u.ownBlock=some g∨v.ownBlock=some g) shs):Mid w1 ws w' b mb gb x shs u v BS own E m l :=
 ⟨h.row.kept hg (.inr fun e=>(h.pl.away mb (.inr e)).2.2.1 rfl),h.ok.ext (h.pl.memo.ext hg),hp,h.gr.trans hg,h.sh.ext (h.pl.memo.ext hg),h.off,h.lk.ext (h.pl.memo.ext hg)⟩
theorem Mid.app {w1 ws w w':World} {b mb gb:Nat} {x:Cs} {shs:List Sh} {u v v':Value} {BS:Nat} {own:List Sh} {E:Option Addr} {m:Nat} {l:List Sh} (h:Mid w1 ws w b mb gb x shs u v BS own E m l) {y:Sh} (hy:y ∈ l) (hg:w.grownBy w' v.ownBlock) (ha:v'.ownBlock=v.ownBlock∨v'.ownBlock=some w.heap.size) (hr:w'.ownsRow BS 41 1 v' (own.length + 1) ((own ++ [y]).map Sh.val)) (hBS:BS=ws.heap.size):Mid w1 ws w' b mb gb x shs u v' BS (own ++ [y]) E m l:=by
 have h1:=h.lk.grow hg ha
 refine ⟨by rw [List.length_append];exact hr,(h.ok.grow hg ha).snoc (h1 y hy).1 (h1 y hy).2,h.pl.app hg (fun g e=>.inr e) ha (fun g e=>e.elim (fun e=>.inl (.inl e)) .inr),h.gr.andThen hg (fun j e=>.inl (by rw [←hBS];exact (own_in h.row j e).1)),h.sh.grown hg (fun h0 ad e e2=>h.off h0 ad e e2.symm) (fun s hs h0 ad e e2=>(h.lk s hs).2 h0 ad e e2.symm),h.off.grow h.sh ha,h1⟩
structure Fin4 (w1 w:World) (b mb gb:Nat) (x:Cs) (shs:List Sh) (v:Value) (B1:Nat) (bl:List BV) (E:Option Addr) (n:Nat) (own:List Sh):Prop where
 row:w.ownsRow B1 72 3 v bl.length (bl.flatMap BV.cells)
 ok:BlOk w v bl
 pl:PlAt w1 w b mb gb x (fun g=>v.ownBlock=some g) shs
 sh:Shs w E n own
 off:OffRow E n v
 lk:RowOk w v own
theorem Fin4.below {w1 w w':World} {b mb gb:Nat} {x:Cs} {shs:List Sh} {v:Value} {B1:Nat} {bl:List BV} {E:Option Addr} {n:Nat} {own:List Sh} (h:Fin4 w1 w b mb gb x shs v B1 bl E n own) (hb:Below w.heap.size w w'):Fin4 w1 w' b mb gb x shs v B1 bl E n own :=
 ⟨own_below h.row hb,h.ok.below hb,h.pl.below hb,h.sh.below hb,h.off,h.lk.below hb⟩
theorem Fin4.app {w1 w w':World} {b mb gb:Nat} {x:Cs} {shs:List Sh} {v v':Value} {B1:Nat} {bl:List BV} {E:Option Addr} {n:Nat} {own:List Sh} (h:Fin4 w1 w b mb gb x shs v B1 bl E n own) {y:BV} (hy:(Ints w y.V y.vn y.v∧Labs w y.LA y.ln y.lb)∧OffRow y.V y.vn v∧OffRow y.LA y.ln v∧(y.vn≤y.vc∧y.vn≤6∧y.ln≤384)) (hg:w.grownBy w' v.ownBlock) (ha:v'.ownBlock=v.ownBlock∨v'.ownBlock=some w.heap.size) (hr:w'.ownsRow B1 72 3 v' (bl.length + 1) ((bl ++ [y]).flatMap BV.cells)):Fin4 w1 w' b mb gb x shs v' B1 (bl ++ [y]) E n own :=
 ⟨by rw [List.length_append];exact hr,(h.ok.snoc hy).grow hg ha,h.pl.app hg (fun g e=>e) ha (fun g e=>.inr e),h.sh.grown hg (fun h0 ad e e2=>h.off h0 ad e e2.symm) (fun s hs h0 ad e e2=>(h.lk s hs).2 h0 ad e e2.symm),h.off.grow h.sh ha,h.lk.grow hg ha⟩
set_option maxHeartbeats 2000000 in
theorem sameInts28_any (A B:Option Addr) (n m c d:Nat) (la lb:List Int) (w:World) (hla:Ints w A n la) (hlb:Ints w B m lb) (hn:n≤1000000000) (hm:m≤1000000000) :
  Calls Try.prog 28 #[.slice A n c,.slice B m d] w fun e w'=>e=.returned (.bool (decide (la=lb)))∧Below w.heap.size w w':=by
 by_cases hnm:n=m
 ·obtain rfl:=hnm
  go_enter Try.func28,Try.ntmps28
  go_wp2_with fail
  go_loopw [5] (fun vi wr=>∃ k:Nat,vi=.int .i64 k∧k≤n∧Hid (la.take k=lb.take k)∧Below w.heap.size w wr) (fun vi _=>n - (intOf vi).toNat)
  case atStart=>exact ⟨0,rfl,by omega,rfl,Below.refl _ _⟩
  case round =>
   obtain ⟨k,rfl,hk,hr,hb⟩:=hrel
   by_cases hlt:k < n
   ·obtain ⟨ad,o,rfl,hg,c0⟩:=(hla.below hb).at_ hlt
    obtain ⟨ad2,o2,rfl,hg2,c02⟩:=(hlb.below hb).at_ hlt
    have HN:=Lib.hid (take_eq_nexti hg hg2 hr.out)
    clear hg hg2
    by_cases ho:o=o2
    ·have HX:=Lib.hid (HN.out.2 ho)
     subst ho
     go_wp2_with fail
     go_quiet (fail)
     go_wp2_with fail
     go_roundw
     case rel=>exact ⟨k + 1,by go_num,by omega,HX.out,below_drewN hb _⟩
     case measure=>simp [intOf];omega
    ·have HX:=Lib.hid (fun h=>ho (HN.out.1 h))
     have q2:(o == o2)=false:=by simpa using ho
     go_wp2_with fail
     go_quiet (fail)
     go_wp2_with fail
     go_ret
     exact ⟨ret_b (Eq.symm (decide_eq_false (fun h=>HX.out (by rw [h])))),below_drewN hb _⟩
   ·have HX:=Lib.hid (show la=lb by
     have h:=hr.out
     rw [List.take_of_length_le (by rw [←hla.1];omega),List.take_of_length_le (by rw [←hlb.1];omega)] at h
     exact h)
    go_wp2_with fail
    go_ret
    exact ⟨ret_b (Eq.symm (decide_eq_true HX.out)),hb⟩
 ·have HX:=Lib.hid (show ¬ la=lb from fun h=>hnm (by rw [hla.1,hlb.1,h]))
  have q1:(((n:Nat):Int) != ((m:Nat):Int))=true:=by simp;omega
  go_enter Try.func28,Try.ntmps28
  go_wp2_with fail
  go_ret
  exact ⟨ret_b (Eq.symm (decide_eq_false HX.out)),Below.refl _ _⟩
namespace K
section
variable {nd : Int} {l : List Ro} {ss : List S} {r : List Q} {ts : List (Int × Tr)}
theorem checks_few (h:checks nd l ss r ts=0):ts.length≤4∧∀ t ∈ ts,t.2.stops.length≤6∧t.2.times.length≤6:=by
 unfold checks at h
 split at h
 case isFalse h1=>exact absurd h h1
 rename_i h1
 obtain ⟨-,hs4,-,-,hr6⟩:=pcheck_ok h1
 obtain ⟨g1,g2,-,-⟩:=checkGo_parts ts _ _ h
 refine ⟨?_,fun t ht=>?_⟩
 ·have hn:(ts.map fun t=>t.1).Nodup:=by
   unfold List.Nodup
   rw [List.pairwise_map]
   exact g2.imp fun h=>Int.ne_of_lt h.1
  have:=len_sub (b:=(List.range ss.length).map fun (i:Nat)=>(i:Int)) hn fun y hy=>by
   obtain ⟨t,ht,rfl⟩:=List.mem_map.1 hy
   obtain ⟨-,hg⟩:=g1 t ht
   obtain ⟨x,hx,-⟩:=hg.sh
   have:=(List.getElem?_eq_some_iff.1 hx).1
   have:=hg.pos
   exact List.mem_map.2 ⟨t.1.toNat,by rw [List.mem_range];omega,by omega⟩
  rw [List.length_map,List.length_map,List.length_range] at this
  omega
 ·obtain ⟨-,hg⟩:=g1 t ht
  obtain ⟨x,-,hc⟩:=hg.sh
  obtain ⟨c1,c2,c3⟩:=check_run hc
  have:=len_sub (b:=(List.range r.length).map fun (i:Nat)=>(i:Int)) c3 fun y hy=>List.mem_map.2 ⟨y.toNat,by have:=c2 y hy;rw [List.mem_range];omega,by have:=c2 y hy;omega⟩
  rw [List.length_map,List.length_range] at this
  refine ⟨by omega,?_⟩
  unfold check at hc
  simp only [Bool.and_eq_true,decide_eq_true_eq] at hc
  obtain ⟨-,-,-,e⟩:=run_ok c1
  rw [←hc.2.1,e]
  have:=K.legs_len nd l x r t.2.stops [] x.depot x.start
  show (all nd l x r t.2.stops).times.length≤6
  unfold all
  omega
end
end K
theorem fewT_of {w:World} {A:Option Addr} {n:Nat} {ts:List TV} (hT:Tours w A n ts) (h:ts.length≤4∧∀ t ∈ ts.map TV.pr,t.2.stops.length≤6∧t.2.times.length≤6):FewT n ts:=by
 refine ⟨by have:=hT.1.1;omega,fun y hy=>?_⟩
 have h1:=h.2 y.pr (List.mem_map_of_mem hy)
 have h2:=(hT.2 y hy).1.1
 have h3:=(hT.2 y hy).2.1
 have e1:y.pr.2.stops=y.t.stops:=rfl
 have e2:y.pr.2.times=y.t.times:=rfl
 rw [e1,e2] at h1
 omega
def K.exL32:List Ro:=[⟨0,1,10,-1⟩,⟨1,0,10,-1⟩]
theorem app_req {ops:Array Oper} {rest:List Oper} {o:Oper} {a:Act} {Q':Exit→Act→World→Prop} {w:World} (hgd:o.guard=none) (s x:Operand)
  (ho:o.op=.call { callee:=.builtin .append,args:=#[s,x],argTypes:=#[26,26] })
  (base:Nat) (v:Value) (n:Nat) (l:List Q) (hs:a.eval s=v) (hown:w.ownsRow base 46 7 v n (l.flatMap Q.cells)) (g:Nat) (y:Q) (hx:a.eval x=.slice (some ⟨g,0,none⟩) 1 1)
  (hg:w.heap[g]? = some (.cells y.cells.toArray 46 (0,0))) (hn:n≤1000000) (hbase:base≤w.heap.size)
  (h:∀ v' w',w'.ownsRow base 46 7 v' (n + 1) ((l ++ [y]).flatMap Q.cells)→w.grownBy w' v.ownBlock→(v'.ownBlock=v.ownBlock∨v'.ownBlock=some w.heap.size)→wpList Try.prog ops Q' rest (a.put o.dst v') w') :
  wpList Try.prog ops Q' (o :: rest) a w:=by
 obtain ⟨i0,hi,hz0,hz1,hz2⟩:=info_parts Try.info46
 refine wpList_append_own_at w hgd s x 26 ho base 46 i0 (.agg #[.int .i64 0,.int .i64 0,.int .i64 0,.int .i64 0,.int .i64 0,.int .i64 0,.slice none 0 0]) 7 72 Try.underlying26 hi hz0 hz1 hz2 rfl (by decide) v n (l.flatMap Q.cells) hs hown ⟨g,0,none⟩ 1 1 y.cells hx rfl ?_ ?_ ?_ ?_ hbase ?_
 ·intro j u hu
  rw [add_zero_block]
  exact blk_cell hg j u (by simpa using hu)
 ·intro u hu
  simp [Q.cells] at hu
  rcases hu with rfl | rfl | rfl | rfl | rfl | rfl | rfl <;> rfl
 ·simp only [maxLen];omega
 ·omega
 ·intro v' w' h2 h3 _ h5
  exact h v' w' (by rw [List.flatMap_append];simpa using h2) h3 h5
theorem reqCells_flat:∀ l:List Q,reqCells l=l.flatMap Q.cells
 | []=>rfl
 | q :: l=>by rw [List.flatMap_cons,←reqCells_flat l];rfl
namespace K
def topS (A:Option Addr) (c:Nat):S:=⟨5,0,0,60,8000,A,1,c,[1000]⟩
def topQ:Q:=⟨1,0,600,5,0,9,none,0,0,[]⟩
def badTS (nd:Int) (r:List Q) (most:Nat) (s:S):Bool:=!T.few s r most || (!(T.check s == 0) || decide (nd≤s.depot))
def badTQ (nd:Int) (q:Q):Bool:=decide (6 < q.n) || (!T.right q || decide (nd≤q.node))
def topFew (nd:Int) (n:Nat) (l:List Ro) (ss:List S) (r:List Q) (most:Nat):Bool:=few27 nd n && (decide (ss.length≤2) && (decide (r.length≤most) && ((netErr nd l == 0) && (!ss.any (badTS nd r most) && !r.any (badTQ nd)))))
end K
structure TopFew (x:Cs) (most:Nat):Prop where
 few:K.few27 x.nd x.n=true
 sn:x.ss.length≤2
 m:x.r.length≤most
 net:K.netErr x.nd x.l=0
 s:∀ s ∈ x.ss,T.few s x.r most=true∧T.check s=0∧s.depot < x.nd
 r:∀ q ∈ x.r,q.n≤6∧T.right q=true∧q.node < x.nd
theorem topFew_iff {x:Cs} {most:Nat} (h:K.topFew x.nd x.n x.l x.ss x.r most=true):TopFew x most:=by
 simp only [K.topFew,Bool.and_eq_true,decide_eq_true_eq,beq_iff_eq,Bool.not_eq_true',List.any_eq_false] at h
 obtain ⟨h1,h2,h3,h4,h5,h6⟩:=h
 refine ⟨h1,h2,h3,h4,fun s hs=>?_,fun q hq=>?_⟩
 ·have:=h5 s hs
  simp only [K.badTS,Bool.or_eq_true,Bool.not_eq_true',beq_eq_false_iff_ne,decide_eq_true_eq,not_or] at this
  refine ⟨by simpa using this.1,by simpa using this.2.1,by have:=this.2.2;omega⟩
 ·have:=h6 q hq
  simp only [K.badTQ,Bool.or_eq_true,Bool.not_eq_true',decide_eq_true_eq,not_or] at this
  refine ⟨by have:=this.1;omega,by simpa using this.2.1,by have:=this.2.2;omega⟩
set_option maxRecDepth 100000 in
set_option maxHeartbeats 16000000 in
theorem wholeFew_any (x:Cs) (most:Nat) (hmo:most≤1000) (w:World) (hR:Roads w x.A x.n x.l) (hSS:Shifts w x.SA x.sn x.ss) (hQ:Reqs w x.B x.m x.r) :
  Calls Try.prog 26 #[.agg #[.int .i64 x.nd,.slice x.A x.n x.c],.slice x.SA x.sn x.sc,.slice x.B x.m x.d,.int .i64 (most:Int)] w fun e w'=>e=.returned (.bool (K.topFew x.nd x.n x.l x.ss x.r most))∧Below w.heap.size w w':=by
 obtain ⟨R,hRR⟩:∃ R,R=K.topFew x.nd x.n x.l x.ss x.r most:=⟨_,rfl⟩
 rw [←hRR]
 have HR:=Lib.hid (show R=(K.few27 x.nd x.n && (decide (x.ss.length≤2) && (decide (x.r.length≤most) && ((K.netErr x.nd x.l == 0) && (!x.ss.any (K.badTS x.nd x.r most) && !x.r.any (K.badTQ x.nd)))))) from hRR)
 clear hRR
 obtain ⟨w1,hw1⟩:∃ w1:World,w1=w.alloc (.cells #[.int .i64 x.nd,.slice x.A x.n x.c] 24):=⟨_,rfl⟩
 have b0:Below w.heap.size w w1:=by rw [hw1];exact (Below.refl _ _).alloc (Nat.le_refl _) _
 obtain ⟨G0,hG0⟩:∃ G0,G0=w.heap.size:=⟨_,rfl⟩
 have hN:Net w1 G0 x.nd x.A x.n x.c:=by rw [hw1,hG0];exact Net.new w x.nd x.A x.n x.c
 have HSN:=Lib.hid hSS.1.1
 have HRN:=Lib.hid hQ.1
 have p0:=hN.c0
 have p1:=hN.c1
 obtain ⟨zf,hzf⟩:∃ z,z=K.few27 x.nd x.n:=⟨_,rfl⟩
 go_enter Try.func26,Try.ntmps26
 go_wp2_with fail
 rw [←hw1,←hG0]
 clear hw1 hG0
 refine (rfew27_any x.nd x.A x.n x.c _).mono ?_
 rw [←hzf]
 rintro e w2 ⟨rfl,b2⟩
 have HZF:=Lib.hid hzf
 have hN:=hN.below b2
 have hb2:=bel b0 b2
 clear p0 p1 b0 b2 hzf
 cases zf
 ·have HX:=Lib.hid (show R=false by rw [HR.out,←HZF.out];rfl)
  go_wp2_with fail
  go_ret
  exact ⟨by rw [HX.out];rfl,hb2⟩
 by_cases h4:x.sn≤2
 rotate_left
 ·have hd:decide ((2:Int) < (x.sn:Int))=true:=by simp;omega
  have hd2:decide (2 < x.sn)=true:=by simp;omega
  have HX:=Lib.hid (show R=false by rw [HR.out,←HSN.out,show decide (x.sn≤2)=false from decide_eq_false h4];simp)
  clear h4
  go_wp2_with fail
  go_ret
  exact ⟨by rw [HX.out];rfl,hb2⟩
 have hd:decide ((2:Int) < (x.sn:Int))=false:=by simp;omega
 have hd2:decide (2 < x.sn)=false:=by simp;omega
 by_cases h5:x.m≤most
 rotate_left
 ·have hf:decide ((most:Int) < (x.m:Int))=true:=by simp;omega
  have hf2:decide (most < x.m)=true:=by simp;omega
  have HX:=Lib.hid (show R=false by rw [HR.out,←HRN.out,show decide (x.m≤most)=false from decide_eq_false h5];simp)
  clear h5
  go_wp2_with fail
  go_ret
  exact ⟨by rw [HX.out];rfl,hb2⟩
 have hf:decide ((most:Int) < (x.m:Int))=false:=by simp;omega
 have hf2:decide (most < x.m)=false:=by simp;omega
 have hn40:x.n≤1000000000:=by
  have h9:=HZF.out
  simp only [K.few27] at h9
  simp at h9
  omega
 obtain ⟨ne,hne⟩:∃ ne,ne=K.netErr x.nd x.l:=⟨_,rfl⟩
 have p0:=hN.c0
 have p1:=hN.c1
 go_wp2_with fail
 refine (rnetcheck_any x.nd x.A x.n x.c x.l _ (Lst.below hR hb2) hn40).mono ?_
 rw [←hne]
 rintro e w3 ⟨rfl,b3⟩
 have HNE:=Lib.hid hne
 have hN:=hN.below b3
 have hb3:=bel hb2 b3
 clear p0 p1 hne
 by_cases hz:ne=0
 rotate_left
 ·have hg:(ne != 0)=true:=by simp [bne,hz]
  have HX:=Lib.hid (show R=false by rw [HR.out,←HNE.out,show (ne == 0)=false by simp [hz]];simp)
  have hg2:decide (ne=0)=false:=by simp [hz]
  clear hz
  go_wp2_with fail
  go_ret
  exact ⟨by rw [HX.out];rfl,hb3⟩
 subst hz
 have HR2:=Lib.hid (show R=(!x.ss.any (K.badTS x.nd x.r most) && !x.r.any (K.badTQ x.nd)) by
  have h0:(K.netErr x.nd x.l == 0)=true:=by rw [←HNE.out];rfl
  have h9:decide (x.ss.length≤2)=true:=decide_eq_true (by rw [←HSN.out];exact h4)
  have h8:decide (x.r.length≤most)=true:=decide_eq_true (by rw [←HRN.out];exact h5)
  rw [HR.out,←HZF.out,h0,h9,h8,Bool.true_and,Bool.true_and,Bool.true_and,Bool.true_and])
 clear HR HNE
 go_wp2_with fail
 clear hd hd2 hf hf2
 go_loopw [9] (fun v wr=>∃ k:Nat,v=.int .i64 (k:Int)∧k≤x.sn∧Hid (x.ss.any (K.badTS x.nd x.r most)=(x.ss.drop k).any (K.badTS x.nd x.r most))∧Below w3.heap.size w3 wr) (fun v _=>x.sn - (intOf v).toNat)
 case atStart=>exact ⟨0,rfl,Nat.zero_le _,(by show _=_;rw [List.drop_zero]),Below.refl _ _⟩
 case round =>
  obtain ⟨k,rfl,hk,hr,hbr⟩:=hrel
  have hbw:=bel hb3 hbr
  by_cases hlt:k < x.sn
  ·obtain ⟨ad,s,hA,hs,hI,c0,c1,c2,c3,c4,c5⟩:=(hSS.below hbw).at_ hlt
   have HS:=Lib.hid (drop_any (p:=K.badTS x.nd x.r most) hs)
   have k0:(0:Int)≤(k:Int):=by omega
   have k1:(k:Int) < (x.sn:Int):=by omega
   have kd:decide ((k:Int) < (x.sn:Int))=true:=decide_eq_true k1
   have kd2:decide (k < x.sn)=true:=decide_eq_true hlt
   obtain ⟨zt,hzt⟩:∃ zt,zt=T.few s x.r most:=⟨_,rfl⟩
   obtain ⟨ce,hce⟩:∃ ce,ce=T.check s:=⟨_,rfl⟩
   have hQr:=hQ.below hbw
   have CF:∀ i:Beh wr,Calls Try.prog 30 #[.agg #[.int .i64 s.day,.int .i64 s.depot,.int .i64 s.start,.int .i64 s.end_,.int .i64 s.tare,.slice s.A s.n s.c],.slice x.B x.m x.d,.int .i64 (most:Int)] i.val fun e w'=>e=.returned (.bool zt)∧Below i.val.heap.size i.val w':=fun i=>by rw [hzt];exact few_any s x.B x.m x.d x.r most i.val (hQr.below i.property) hmo
   have HBD:=Lib.hid (show K.badTS x.nd x.r most s=(!zt || (!(ce == 0) || decide (x.nd≤s.depot))) by rw [hce,hzt];rfl)
   have q0:=Beh.cell (hN.below hbr).c0
   have e0:=Beh.cell c0
   have e1:=Beh.cell c1
   have e2:=Beh.cell c2
   have e3:=Beh.cell c3
   have e4:=Beh.cell c4
   have e5:=Beh.cell c5
   have HZT:=Lib.hid hzt
   have HCE:=Lib.hid hce
   have HI:=Lib.hid hI
   clear hs hI hce hzt c0 c1 c2 c3 c4 c5
   rw [hA]
   clear hA
   obtain ⟨z1,hz1⟩:∃ z,z=(ce != 0):=⟨_,rfl⟩
   have HZ1:=Lib.hid (show (ce == 0)=!z1 by rw [hz1];simp [bne])
   obtain ⟨z2,hz2⟩:∃ z,z=decide (x.nd≤s.depot):=⟨_,rfl⟩
   have HZ2:=Lib.hid hz2.symm
   have f1:=hz1.symm
   have f2:=hz2.symm
   clear hz1 hz2
   have HBB:=Lib.hid (show K.badTS x.nd x.r most s=(!zt || (z1 || z2)) by rw [HBD.out,HZ1.out,HZ2.out,Bool.not_not])
   cases zt
   ·go_upto_region 6 with fail
    refine reg_beh (by kernel_rfl) (by kernel_rfl) ?_
    repeat (go_big_quiet_step ((go_at_call 30;exact Beh.calls (CF _))))
    refine wpQuiet_nil ?_
    rintro w4 ⟨⟨w4,b4⟩,rfl⟩
    have hb42:=bel hb3 (bel hbr b4)
    clear CF q0 e0 e1 e2 e3 e4 e5 f1 f2
    go_wp2_with fail
    go_ret
    exact ⟨by rw [HR2.out,hr.out,HS.out,HBB.out];simp,hb42⟩
   have hsn:s.n≤1000000000:=by
    have h9:=HZT.out
    simp only [T.few] at h9
    have h8:decide (s.n≤6)=true:=by
     cases h7:decide (s.n≤6)
     ·rw [h7] at h9;simp at h9
     ·rfl
    have:=of_decide_eq_true h8
    omega
   have CK:∀ i:Beh wr,Calls Try.prog 16 #[.agg #[.int .i64 s.day,.int .i64 s.depot,.int .i64 s.start,.int .i64 s.end_,.int .i64 s.tare,.slice s.A s.n s.c]] i.val fun e w'=>e=.returned (.int .i64 ce)∧Below i.val.heap.size i.val w':=fun i=>by rw [HCE.out];exact check_any s i.val (HI.out.below i.property) hsn
   go_upto_region 6 with fail
   have h5:z1=true∨(z1=false∧z2=true)∨(z1=false∧z2=false):=by cases z1 <;> cases z2 <;> simp
   rcases h5 with rfl | ⟨rfl,rfl⟩ | ⟨rfl,rfl⟩
   all_goals
    refine reg_beh (by kernel_rfl) (by kernel_rfl) ?_
    repeat (go_big_quiet_step ((first | (go_at_call 30;exact Beh.calls (CF _)) | (go_at_call 16;exact Beh.calls (CK _)) | fail)))
    refine wpQuiet_nil ?_
    rintro w4 ⟨⟨w4,b4⟩,rfl⟩
    have hb4:=bel hbr b4
    have hb42:=bel hb3 hb4
    clear CF CK q0 e0 e1 e2 e3 e4 e5 f1 f2
    go_wp2_with fail
    first
     | (go_ret
        exact ⟨by rw [HR2.out,hr.out,HS.out,HBB.out];simp,hb42⟩)
     | (go_roundw
        case rel=>exact ⟨k + 1,by go_num,hlt,by show _=_;rw [hr.out,HS.out,HBB.out];rfl,hb4⟩
        case measure=>simp [intOf];omega)
  ·have HD:=Lib.hid (show x.ss.drop k=[] from List.drop_eq_nil_of_le (by rw [←HSN.out];omega))
   have hd:decide ((k:Int) < (x.sn:Int))=false:=by simp;omega
   have hd2:decide (k < x.sn)=false:=by simp;omega
   have HR3:=Lib.hid (show R=!x.r.any (K.badTQ x.nd) by rw [HR2.out,hr.out,HD.out];rfl)
   have hN3:=hN.below hbr
   clear hr HD HR2 hlt hk
   go_wp2_with fail
   clear hd hd2
   go_loopw [10] (fun v wq=>∃ k:Nat,v=.int .i64 (k:Int)∧k≤x.m∧Hid (x.r.any (K.badTQ x.nd)=(x.r.drop k).any (K.badTQ x.nd))∧Below wr.heap.size wr wq) (fun v _=>x.m - (intOf v).toNat)
   case atStart=>exact ⟨0,rfl,Nat.zero_le _,(by show _=_;rw [List.drop_zero]),Below.refl _ _⟩
   case round =>
    obtain ⟨k,rfl,hk,hr,hbq⟩:=hrel
    have hbw2:=bel hbw hbq
    by_cases hlt:k < x.m
    ·obtain ⟨ad,q,hA,hq,hI,c0,c1,c2,c3,c4,c5,c6⟩:=(hQ.below hbw2).at_ hlt
     have HS:=Lib.hid (drop_any (p:=K.badTQ x.nd) hq)
     have k0:(0:Int)≤(k:Int):=by omega
     have k1:(k:Int) < (x.m:Int):=by omega
     have kd:decide ((k:Int) < (x.m:Int))=true:=decide_eq_true k1
     have kd2:decide (k < x.m)=true:=decide_eq_true hlt
     obtain ⟨ce,hce⟩:∃ ce,ce=T.right q:=⟨_,rfl⟩
     have HBD:=Lib.hid (show K.badTQ x.nd q=(decide (6 < q.n) || (!ce || decide (x.nd≤q.node))) by rw [hce];rfl)
     have q0:=Beh.cell (hN3.below hbq).c0
     have e0:=Beh.cell c0
     have e1:=Beh.cell c1
     have e2:=Beh.cell c2
     have e3:=Beh.cell c3
     have e4:=Beh.cell c4
     have e5:=Beh.cell c5
     have e6:=Beh.cell c6
     have HCE:=Lib.hid hce
     have HI:=Lib.hid hI
     clear hq hI hce c0 c1 c2 c3 c4 c5 c6
     rw [hA]
     clear hA
     by_cases hq6:q.n≤6
     rotate_left
     ·have g1:decide ((6:Int) < (q.n:Int))=true:=by simp;omega
      have g2:decide (6 < q.n)=true:=by simp;omega
      have HBB:=Lib.hid (show K.badTQ x.nd q=true by rw [HBD.out,g2];rfl)
      go_upto_region 11 with fail
      refine reg_beh (by kernel_rfl) (by kernel_rfl) ?_
      repeat (go_big_quiet_step (fail))
      refine wpQuiet_nil ?_
      rintro w4 ⟨⟨w4,b4⟩,rfl⟩
      have hb42:=bel hbw (bel hbq b4)
      clear q0 e0 e1 e2 e3 e4 e5 e6 g1 g2
      go_wp2_with fail
      go_ret
      exact ⟨by rw [HR3.out,hr.out,HS.out,HBB.out];rfl,hb42⟩
     have g1:decide ((6:Int) < (q.n:Int))=false:=by simp;omega
     have g2:decide (6 < q.n)=false:=by simp;omega
     have CK:∀ i:Beh wr,Calls Try.prog 59 #[.agg #[.int .i64 q.node,.int .i64 q.room,.int .i64 q.kilos,.int .i64 q.service,.int .i64 q.frm,.int .i64 q.by_,.slice q.A q.n q.c]] i.val fun e w'=>e=.returned (.bool ce)∧Below i.val.heap.size i.val w':=fun i=>by rw [HCE.out];exact tright_any q i.val (HI.out.below i.property) (by omega)
     obtain ⟨z2,hz2⟩:∃ z,z=decide (x.nd≤q.node):=⟨_,rfl⟩
     have HZ2:=Lib.hid hz2.symm
     have f2:=hz2.symm
     clear hz2
     have HBB:=Lib.hid (show K.badTQ x.nd q=(!ce || z2) by rw [HBD.out,g2,HZ2.out];rfl)
     go_upto_region 11 with fail
     have h5:ce=false∨(ce=true∧z2=true)∨(ce=true∧z2=false):=by cases ce <;> cases z2 <;> simp
     rcases h5 with rfl | ⟨rfl,rfl⟩ | ⟨rfl,rfl⟩
     all_goals
      refine reg_beh (by kernel_rfl) (by kernel_rfl) ?_
      repeat (go_big_quiet_step ((go_at_call 59;exact Beh.calls (CK _))))
      refine wpQuiet_nil ?_
      rintro w4 ⟨⟨w4,b4⟩,rfl⟩
      have hb4:=bel hbq b4
      have hb42:=bel hbw hb4
      clear CK q0 e0 e1 e2 e3 e4 e5 e6 f2
      go_wp2_with fail
      first
       | (go_ret
          exact ⟨by rw [HR3.out,hr.out,HS.out,HBB.out];rfl,hb42⟩)
       | (go_roundw
          case rel=>exact ⟨k + 1,by go_num,hlt,by show _=_;rw [hr.out,HS.out,HBB.out];rfl,hb4⟩
          case measure=>simp [intOf];omega)
    ·have HD:=Lib.hid (show x.r.drop k=[] from List.drop_eq_nil_of_le (by rw [←HRN.out];omega))
     have hd:decide ((k:Int) < (x.m:Int))=false:=by simp;omega
     have hd2:decide (k < x.m)=false:=by simp;omega
     go_wp2_with fail
     go_ret
     exact ⟨by rw [HR3.out,hr.out,HD.out];rfl,hbw2⟩
set_option maxRecDepth 100000 in
set_option maxHeartbeats 4000000 in
theorem net113_any (w:World):Calls Try.prog 53 #[] w fun e w'=>(∃ A c A2 c2 SA sc,e=.returned (.tuple #[.agg #[.int .i64 2,.slice A 2 c],.slice SA 1 sc])∧Roads w' A 2 K.exL32∧Shifts w' SA 1 [K.topS A2 c2])∧Below w.heap.size w w':=by
 go_enter Try.func53,Try.ntmps53
 go_wp2_with fail
 obtain ⟨l5,hl5⟩:∃ l5:List Obj,l5=[.cells #[.int .i64 2,.slice (some ⟨w.heap.size + 1,0,none⟩) 2 2] 24,.cells #[.int .i64 0,.int .i64 1,.int .i64 10,.int .i64 (-1),.int .i64 1,.int .i64 0,.int .i64 10,.int .i64 (-1)] 129,
  .cells #[.int .i64 2,.slice (some ⟨w.heap.size + 1,0,none⟩) 2 2] 24,.cells #[.int .i64 1000] 3,.cells #[.int .i64 5,.int .i64 0,.int .i64 0,.int .i64 60,.int .i64 8000,.slice (some ⟨w.heap.size + 1 + 1 + 1,0,none⟩) 1 1] 43]:=⟨_,rfl⟩
 obtain ⟨wz,hwz⟩:∃ wz:World,wz=Als w l5:=⟨_,rfl⟩
 have hb:=Als.below l5 w
 have g:=Als.get l5 w
 rw [←hwz] at hb g
 have e0:=g 0 _ (by rw [hl5];rfl)
 have e1:=g 1 _ (by rw [hl5];rfl)
 have e3:=g 3 _ (by rw [hl5];rfl)
 have e4:=g 4 _ (by rw [hl5];rfl)
 rw [hl5] at hwz
 simp only [Als] at hwz
 rw [←hwz]
 have c0:wz.cell? ⟨w.heap.size,0,none⟩=some (.int .i64 2):=blk_cell e0 0 _ rfl
 have c1:wz.cell? ⟨w.heap.size,1,none⟩=some (.slice (some ⟨w.heap.size + 1,0,none⟩) 2 2):=blk_cell e0 1 _ rfl
 refine bodyPost_ret_by (v:=.tuple #[.agg #[.int .i64 2,.slice (some ⟨w.heap.size + 1,0,none⟩) 2 2],.slice (some ⟨w.heap.size + 1 + 1 + 1 + 1,0,none⟩) 1 1]) (by rw [results_cell_tmp rfl];simp [go_sem,c0,c1]) rfl ?_
 exact ⟨⟨some ⟨w.heap.size + 1,0,none⟩,2,some ⟨w.heap.size + 1 + 1 + 1,0,none⟩,1,some ⟨w.heap.size + 1 + 1 + 1 + 1,0,none⟩,1,rfl,⟨rfl,Rd.of_block (cs:=(K.exL32.flatMap roadCells).toArray) e1 4 2 rfl⟩,⟨⟨rfl,Rd.of_block (cs:=([K.topS (some ⟨w.heap.size + 1 + 1 + 1,0,none⟩) 1].flatMap S.cells).toArray) e4 6 1 rfl⟩,fun s hs=>by rw [List.mem_singleton.1 hs];exact ⟨rfl,Rd.of_block (cs:=(intCells [1000]).toArray) e3 1 1 rfl⟩⟩⟩,hb⟩
end Go.Proofs.Ytippdjmpkafifaa
