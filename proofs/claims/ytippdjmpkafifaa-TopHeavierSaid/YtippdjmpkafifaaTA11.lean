import Derived.Test.YtippdjmpkafifaaTA10
import Derived.Test.YtippdjmpkafifaaTA3
import Derived.Test.YtippdjmpkafifaaTA7
import Derived.Test.YtippdjmpkafifaaTA9
namespace Go.Proofs.Ytippdjmpkafifaa
open Go.RowKit
namespace Vt
set_option maxHeartbeats 400000 in
theorem build1_any (x:Ln) (w:World):Calls Try.prog 90 #[.agg #[.int .i64 x.hh,.int .i64 x.cents,.int .i64 x.bl]] w fun e w'=>e=.returned (.bool (!K.right x))∧Below w.heap.size w w':=by
 go_enter Try.func90,Try.ntmps90
 go_wp2_with fail
 refine (right_any x _).mono ?_
 rintro e w1 ⟨rfl,hb1⟩
 go_wp2_with fail
 go_ret
 exact ⟨rfl,bel ((Below.refl _ _).alloc (Nat.le_refl _) _) hb1⟩
set_option maxHeartbeats 1000000 in
theorem index_any (A:Option Addr) (n c:Nat) (l:List Ln) (w:World) (hl:Lines w A n l) (hn:n≤1000000000) :
  Calls Try.prog 114 #[.slice A n c,.func (.func 90) #[] #[]] w fun e w'=>(∃ i:Int,e=.returned (.int .i64 i)∧(decide (0≤i))=l.any fun q=>!K.right q)∧Below w.heap.size w w':=by
 go_enter Try.func114,Try.ntmps114
 go_wp2_with fail
 go_loopw [8] (fun vi wr=>∃ k:Nat,vi=.int .i64 k∧k≤n∧Hid ((l.any fun q=>!K.right q)=(l.drop k).any fun q=>!K.right q)∧Below w.heap.size w wr) (fun vi _=>n - (intOf vi).toNat)
 case atStart=>exact ⟨0,rfl,by omega,by show _=_;rw [List.drop_zero],Below.refl _ _⟩
 case round =>
  obtain ⟨k,rfl,hk,hr,hbr⟩:=hrel
  by_cases hlt:k < n
  ·obtain ⟨ad,q,rfl,hg,c0,c1,c2⟩:=Lines.at_ (hl.below hbr) hlt
   have HS:=Lib.hid (drop_any (p:=fun q=>!K.right q) hg)
   clear hg
   go_wp2_with fail
   refine (build1_any q _).mono ?_
   rintro e w1 ⟨rfl,hb1⟩
   cases hpx:K.right q
   ·go_wp2_with fail
    go_ret
    exact ⟨⟨k,rfl,by rw [hr.out,HS.out,hpx];simp⟩,bel hbr hb1⟩
   ·go_wp2_with fail
    go_roundw
    case rel=>exact ⟨k + 1,by go_num,by omega,by show _=_;rw [hr.out,HS.out,hpx];rfl,bel hbr hb1⟩
    case measure=>simp [intOf];omega
  ·have hd:l.drop k=[]:=List.drop_eq_nil_of_le (by rw [←hl.1];omega)
   have HD:=Lib.hid hd
   clear hd
   go_wp2_with fail
   go_ret
   exact ⟨⟨-1,rfl,by rw [hr.out,HD.out];rfl⟩,hbr⟩
set_option maxHeartbeats 400000 in
theorem contains_any (A:Option Addr) (n c:Nat) (l:List Ln) (w:World) (hl:Lines w A n l) (hn:n≤1000000000) :
  Calls Try.prog 89 #[.slice A n c,.func (.func 90) #[] #[]] w fun e w'=>e=.returned (.bool (l.any fun q=>!K.right q))∧Below w.heap.size w w':=by
 go_enter Try.func89,Try.ntmps89
 go_wp2_with fail
 refine (index_any A n c l _ hl hn).mono ?_
 rintro e w1 ⟨⟨i,rfl,hi⟩,hb1⟩
 go_wp2_with fail
 go_ret
 exact ⟨rfl,hb1⟩
end Vt
namespace Vt
structure Two (w w':World) (b:Nat) (r:Option Nat):Prop where
 os:w'.os=w.os
 tape:w'.tape=w.tape
 output:w'.output=w.output
 size:w.heap.size≤w'.heap.size
 block:∀ k,k < w.heap.size→k ≠ b→some k ≠ r→w'.heap[k]? = w.heap[k]?
theorem Two.below {w w':World} {b:Nat} {r:Option Nat} (h:Two w w' b r) {B:Nat} {a:World} (hb:Below B a w) (hB:B≤w.heap.size) (h1:B≤b) (h2:∀ k,r=some k→B≤k):Below B a w' :=
 hb.trans ⟨h.os,h.tape,h.output,h.size,fun k hk=>h.block k (by omega) (by omega) (fun e=>by have:=h2 k e.symm;omega)⟩
theorem Two.own {w w':World} {b:Nat} {r:Option Nat} (h:Two w w' b r) {base:Nat} {e:TypeId} {size n:Nat} {v:Value} {xs:List Value} (ho:w.ownsRow base e size v n xs) (hb:v.ownBlock ≠ some b) (hr:∀ k,v.ownBlock=some k→r ≠ some k):w'.ownsRow base e size v n xs:=by
 obtain ⟨hl,h1 | ⟨g,cap,cur,hv,hbg,hh,rest⟩⟩:=ho
 ·exact ⟨hl,.inl h1⟩
 ·refine ⟨hl,.inr ⟨g,cap,cur,hv,hbg,?_,rest⟩⟩
  rw [h.block g (Array.getElem?_eq_some_iff.1 hh).1 (fun e=>hb (by rw [hv,←e];rfl)) (fun e=>hr g (by rw [hv];rfl) e.symm)]
  exact hh
set_option maxRecDepth 100000 in
set_option maxHeartbeats 4000000 in
theorem add_any (bb base:Nat) (v:Value) (n:Nat) (L:List It) (x:It) (w:World) (hB:w.heap[bb]? = some (.cells #[v] 169 (0,0))) (hown:w.ownsRow base 167 4 v n (itemCells L)) (hbb:v.ownBlock ≠ some bb) (hbase:base≤w.heap.size) (hn:n≤10000) :
  Calls Try.prog 93 #[.pointer (some ⟨bb,0,none⟩),.agg #[.int .i64 x.val,.int .i64 x.bl,.int .i64 x.lt,.int .i64 x.rt]] w fun e w'=>e=.returned (.int .i64 n)∧∃ v',w'.heap[bb]? = some (.cells #[v'] 169 (0,0))∧w'.ownsRow base 167 4 v' (n + 1) (itemCells (L ++ [x]))∧Two w w' bb v.ownBlock∧(v'.ownBlock=v.ownBlock∨∃ k,v'.ownBlock=some k∧w.heap.size≤k)∧v'.ownBlock ≠ some bb:=by
 obtain ⟨i0,hi,hz0,hz1,hz2⟩:=info_parts Try.info167
 have hbw:bb < w.heap.size:=lt_of_block hB
 have sz:=World.size_alloc w
 have al:=fun (o o':Obj)=>blk_alloc (blk_alloc hB o) o'
 have v0:∀ o:Obj,(w.alloc o).cell? ⟨bb,0,none⟩=some v:=fun o=>blk_cell (blk_alloc hB o) 0 _ rfl
 have v1:∀ o o':Obj,((w.alloc o).alloc o').cell? ⟨bb,0,none⟩=some v:=fun o o'=>blk_cell (al o o') 0 _ rfl
 have bd:∀ o o':Obj,Below w.heap.size w ((w.alloc o).alloc o').drew:=fun o o'=>(((Below.refl _ _).alloc (Nat.le_refl _) _).alloc (by simp) _).drew
 have own1:∀ o o':Obj,((w.alloc o).alloc o').drew.ownsRow base 167 4 v n (itemCells L):=fun o o'=>own_below hown (bd o o')
 have new1:∀ o:Obj,∀ (j:Nat) (u:Value),([Value.int .i64 x.val,.int .i64 x.bl,.int .i64 x.lt,.int .i64 x.rt])[j]? = some u→((w.alloc o).alloc (.cells #[.int .i64 x.val,.int .i64 x.bl,.int .i64 x.lt,.int .i64 x.rt] 167)).drew.cell? ((⟨w.heap.size + 1,0,none⟩:Addr).add j)=some u:=fun o j u hu=>by
  rw [add_zero_block]
  exact blk_cell (w:=(w.alloc o).alloc _) (heap_alloc_at _ _ _ (sz o).symm) j u (by simpa using hu)
 have one1:∀ u ∈ [Value.int .i64 x.val,.int .i64 x.bl,.int .i64 x.lt,.int .i64 x.rt],u.oneCell'=true:=fun u hu=>by
  simp at hu
  rcases hu with rfl | rfl | rfl | rfl <;> rfl
 have le1:n + 1≤maxLen:=by simp only [maxLen];omega
 have le2:(n + 1) * 32≤140737488355328:=by omega
 have le3:∀ o o':Obj,base≤((w.alloc o).alloc o').drew.heap.size:=fun o o'=>Nat.le_trans hbase (bd o o').size
 have ne1:some bb ≠ v.ownBlock:=fun e=>hbb e.symm
 go_enter Try.func93,Try.ntmps93
 go_wp2_with fail
 go_region_law (refine step_append_lies _ rfl (.tmp 10) (.tmp 12) 116 rfl base 167 i0 (.agg #[.int .i64 0,.int .i64 0,.int .i64 0,.int .i64 0]) 4 32 Try.underlying116 hi hz0 hz1 hz2 rfl (Nat.succ_pos 3) v n (itemCells L) rfl (own1 _ _) ⟨w.heap.size + 1,0,none⟩ 1 1 [.int .i64 x.val,.int .i64 x.bl,.int .i64 x.lt,.int .i64 x.rt] rfl rfl (new1 _) one1 Nat.one_pos le1 le2 (le3 _ _) _ rfl ?_;intro g4 cap4 w4 hown4 hgrow4 hlies hlt4;have hB4:=grow_blk hgrow4 (al _ _) ne1;have v4:w4.cell? ⟨bb,0,none⟩=some v:=blk_cell hB4 0 _ rfl;have vf4:w4.frozen? ⟨bb,0,none⟩=false:=by simp [World.frozen?,hB4])
 all_goals
  have hS:=blk_set hB4 0 (Value.slice (some ⟨g4,0,none⟩) (n + 1) cap4)
  have z:(w4.setCell ⟨bb,0,none⟩ (Value.slice (some ⟨g4,0,none⟩) (n + 1) cap4)).cell? ⟨bb,0,none⟩=some (Value.slice (some ⟨g4,0,none⟩) (n + 1) cap4):=blk_cell hS 0 _ rfl
  have hnb:bb ≠ g4:=fun e=>by
   rcases hlies with h | h
   ·exact hbb (by rw [h,e])
   ·have:=(bd (.cells #[.int .i64 x.val,.int .i64 x.bl,.int .i64 x.lt,.int .i64 x.rt] 167) (.cells #[.int .i64 x.val,.int .i64 x.bl,.int .i64 x.lt,.int .i64 x.rt] 167)).size
    rw [←h,←e] at this;omega
  have hR:=ownsRow_setCell_other hown4 (a:=⟨bb,0,none⟩) (show (some g4:Option Nat) ≠ some bb from fun e=>hnb (Option.some.inj e).symm) (Value.slice (some ⟨g4,0,none⟩) (n + 1) cap4)
  have hbd:=bd (.cells #[.int .i64 x.val,.int .i64 x.bl,.int .i64 x.lt,.int .i64 x.rt] 167) (.cells #[.int .i64 x.val,.int .i64 x.bl,.int .i64 x.lt,.int .i64 x.rt] 167)
  have hT:Two w (w4.setCell ⟨bb,0,none⟩ (Value.slice (some ⟨g4,0,none⟩) (n + 1) cap4)) bb v.ownBlock :=
   ⟨hgrow4.os.trans hbd.os,hgrow4.tape.trans hbd.tape,hgrow4.output.trans hbd.output,by show _≤(w4.heap.modify _ _).size;rw [Array.size_modify];exact Nat.le_trans hbd.size hgrow4.size,
    fun k hk hkb hkr=>((Below.heap_setCell w4 ⟨bb,0,none⟩ _ k hkb).trans (hgrow4.block k (Nat.lt_of_lt_of_le hk hbd.size) hkr)).trans (hbd.block k hk)⟩
  have hN:(Value.slice (some ⟨g4,0,none⟩) (n + 1) cap4).ownBlock=v.ownBlock∨∃ k,(Value.slice (some ⟨g4,0,none⟩) (n + 1) cap4).ownBlock=some k∧w.heap.size≤k:=by
   rcases hlies with h | h
   ·exact .inl h.symm
   ·exact .inr ⟨g4,rfl,by rw [h];exact hbd.size⟩
  clear hgrow4 hlies v4 vf4 hbd
  go_wp2_with fail
  go_ret
  refine ⟨by congr 2,_,hS,?_,hT,hN,fun e=>hnb (Option.some.inj e).symm⟩
  rw [itemCells,List.flatMap_append]
  exact hR
end Vt
namespace Vt
namespace K
def leafIt (x:Ln):It:=⟨x.cents,x.bl,-1,-1⟩
def get (V:List It) (i:Int):It:=(V[i.toNat]?).getD ⟨0,0,0,0⟩
def sumIt (V:List It) (a b:Int):It:=⟨(get V a).val + (get V b).val,(get V a).bl + (get V b).bl,a,b⟩
def pairUp:List It→List Int→List It × List Int
 | V,a :: b :: r=>((pairUp (V ++ [sumIt V a b]) r).1,(V.length:Int) :: (pairUp (V ++ [sumIt V a b]) r).2)
 | V,[a]=>(V,[a])
 | V,[]=>(V,[])
def levels:Nat→List It→List Int→List It × Int
 | 0,V,lv=>(V,lv.headD 0)
 | f + 1,V,lv=>if lv.length≤1 then (V,lv.headD 0) else levels f (pairUp V lv).1 (pairUp V lv).2
def cents:List Ln→Int
 | []=>0
 | x :: l=>x.cents + cents l
def idx (n:Nat) (l:List Ln):List Int:=(List.range l.length).map fun i=>((n + i:Nat):Int)
structure Built where
 items:List It
 root:Int
 leaves:List Int
 err:Int
def build (v:List It) (l:List Ln):Built :=
 if (!sound v || l.isEmpty || l.any fun x=>!right x)=true then ⟨[],-1,[],1⟩
 else if 64 < l.length∨1001 < v.length + 2 * l.length then ⟨[],-1,[],6⟩
 else if 1125899906842624 < cents l then ⟨[],-1,[],3⟩
 else ⟨(levels l.length (v ++ l.map leafIt) (idx v.length l)).1,(levels l.length (v ++ l.map leafIt) (idx v.length l)).2,idx v.length l,0⟩
end K
theorem K.cents_snoc (l:List Ln) (x:Ln):K.cents (l ++ [x])=K.cents l + x.cents:=by
 induction l with
 | nil=>simp [K.cents]
 | cons y l ih=>simp [K.cents,ih];omega
theorem K.right_cents {x:Ln} (h:K.right x=true):0≤x.cents∧x.cents≤1125899906842624∧0≤x.bl∧x.bl≤1099511627776:=by
 simp [K.right,K.btw] at h
 omega
theorem K.cents_bound {l:List Ln} (h:∀ x ∈ l,K.right x=true):0≤K.cents l∧K.cents l≤1125899906842624 * l.length:=by
 induction l with
 | nil=>simp [K.cents]
 | cons x l ih =>
  have h1:=K.right_cents (h x List.mem_cons_self)
  have h2:=ih fun y hy=>h y (List.mem_cons_of_mem _ hy)
  simp only [K.cents,List.length_cons]
  omega
theorem K.idx_snoc (n:Nat) (l:List Ln) (x:Ln):K.idx n (l ++ [x])=K.idx n l ++ [((n + l.length:Nat):Int)]:=by
 simp [K.idx,List.range_succ]
theorem K.idx_len (n:Nat) (l:List Ln):(K.idx n l).length=l.length:=by simp [K.idx]
end Vt
namespace Vt
theorem results_cell_tmp3 {fn:Func} {p u v t:Tmp} {ty:TypeId} (h:fn.results=#[.cell p ty,.tmp u,.tmp v,.tmp t]) (tmps:Array Value) (P:Program) (w:World) :
  (results fn tmps).run P w =
   ((asAddr (tmps.getD p undef)).run P w).andThen fun a w₁=>((loadVar ty a).run P w₁).andThen fun x w₂=>.ok (.tuple #[x,tmps.getD u undef,tmps.getD v undef,tmps.getD t undef]) w₂:=by
 simp only [results,h]
 simp [Sem.run_bind,Result.andThen]
def BuiltAt (b:K.Built) (e:Ending) (w':World):Prop:=∃ A' n' c' B' m' d',e=.returned (.tuple #[.agg #[.slice A' n' c'],.int .i64 b.root,.slice B' m' d',.int .i64 b.err])∧Items w' A' n' b.items∧Ints w' B' m' b.leaves
theorem built_no {b:K.Built} {x:Int} (h:b=⟨[],-1,[],x⟩) (w':World):BuiltAt b (.returned (.tuple #[.agg #[.slice none 0 0],.int .i64 (-1),.slice none 0 0,.int .i64 x])) w':=by
 subst h
 exact ⟨_,_,_,_,_,_,rfl,items_nil _,ints_nil _⟩
set_option maxRecDepth 100000 in
set_option maxHeartbeats 8000000 in
theorem build_no (A:Option Addr) (n c:Nat) (v:List It) (B:Option Addr) (m d:Nat) (l:List Ln) (w:World) (hv:Items w A n v) (hn:n≤100000) (hl:Lines w B m l) (hm:m≤100000)
  (h:(!K.sound v || l.isEmpty || l.any fun x=>!K.right x)=true∨(64 < m∨1001 < n + 2 * m)) :
  Calls Try.prog 55 #[.agg #[.slice A n c],.slice B m d] w fun e w'=>BuiltAt (K.build v l) e w'∧Below w.heap.size w w':=by
 have b0:=((Below.refl w.heap.size w).alloc (Nat.le_refl _) (.cells #[.slice A n c] 118)).alloc (by simp) (.cells #[.slice none 0 0] 118)
 have hP0:=blk_alloc (vbox w A n c) (.cells #[.slice none 0 0] 118)
 have sz:=World.size_alloc w (.cells #[.slice A n c] 118)
 have hO0:((w.alloc (.cells #[.slice A n c] 118)).alloc (.cells #[.slice none 0 0] 118)).heap[w.heap.size + 1]? = some (.cells #[.slice none 0 0] 118 (0,0)):=heap_alloc_at _ _ _ sz.symm
 cases h1:K.sound v
 ·have HX:=Lib.hid (show K.build v l=⟨[],-1,[],1⟩ by unfold K.build;rw [h1];rfl)
  have H1:=Lib.hid h1
  clear h h1
  go_enter Try.func55,Try.ntmps55
  go_wp2_with fail
  refine (sound_any A n c v _ (hv.below b0) (by omega)).mono ?_;rw [H1.out];rintro e w1 ⟨rfl,b1⟩
  have hO9:=blk_below b1 hO0
  have o0:w1.cell? ⟨w.heap.size + 1,0,none⟩=some (.slice none 0 0):=blk_cell hO9 0 _ rfl
  have of:w1.frozen? ⟨w.heap.size + 1,0,none⟩=false:=by simp [World.frozen?,hO9]
  go_wp2_with fail
  refine bodyPost_ret_by (v:=.tuple #[.agg #[.slice none 0 0],.int .i64 (-1),.slice none 0 0,.int .i64 1]) ?_ rfl ?_
  ·have z:(w1.setCell ⟨w.heap.size + 1,0,none⟩ (.slice none 0 0)).cell? ⟨w.heap.size + 1,0,none⟩=some (.slice none 0 0):=blk_cell (blk_set hO9 0 _) 0 _ rfl
   rw [results_cell_tmp3 rfl]
   simp [go_sem,z]
  ·exact ⟨built_no HX.out _,(bel b0 b1).setCell (by simp) _⟩
 have H1:=Lib.hid h1
 by_cases hm0:m=0
 ·have HX:=Lib.hid (show K.build v l=⟨[],-1,[],1⟩ by
   have:l=[]:=List.length_eq_zero_iff.1 (by rw [←hl.1];exact hm0)
   subst this;unfold K.build;rw [h1];rfl)
  have e0:((m:Int) == 0)=true:=by simp [hm0]
  clear h h1 hm0
  go_enter Try.func55,Try.ntmps55
  go_wp2_with fail
  refine (sound_any A n c v _ (hv.below b0) (by omega)).mono ?_;rw [H1.out];rintro e w1 ⟨rfl,b1⟩
  have hO9:=blk_below b1 hO0
  have o0:w1.cell? ⟨w.heap.size + 1,0,none⟩=some (.slice none 0 0):=blk_cell hO9 0 _ rfl
  have of:w1.frozen? ⟨w.heap.size + 1,0,none⟩=false:=by simp [World.frozen?,hO9]
  go_wp2_with fail
  refine bodyPost_ret_by (v:=.tuple #[.agg #[.slice none 0 0],.int .i64 (-1),.slice none 0 0,.int .i64 1]) ?_ rfl ?_
  ·have z:(w1.setCell ⟨w.heap.size + 1,0,none⟩ (.slice none 0 0)).cell? ⟨w.heap.size + 1,0,none⟩=some (.slice none 0 0):=blk_cell (blk_set hO9 0 _) 0 _ rfl
   rw [results_cell_tmp3 rfl]
   simp [go_sem,z]
  ·exact ⟨built_no HX.out _,(bel b0 b1).setCell (by simp) _⟩
 have e0:((m:Int) == 0)=false:=by simp;omega
 have hne:l.isEmpty=false:=by
  cases l with
  | nil=>exact absurd hl.1 hm0
  | cons a l=>rfl
 cases h2:(l.any fun x=>!K.right x)
 rotate_left
 ·have HX:=Lib.hid (show K.build v l=⟨[],-1,[],1⟩ by unfold K.build;rw [h2];simp)
  have H2:=Lib.hid h2
  clear h h1 h2 hm0 hne
  go_enter Try.func55,Try.ntmps55
  go_wp2_with fail
  refine (sound_any A n c v _ (hv.below b0) (by omega)).mono ?_;rw [H1.out];rintro e w1 ⟨rfl,b1⟩
  go_wp2_with fail
  refine (contains_any B m d l _ ((hl.below b0).below b1) (by omega)).mono ?_;rw [H2.out];rintro e w2 ⟨rfl,b2⟩
  have b3:=b1.trans (b2.mono b1.size)
  have hO9:=blk_below b3 hO0
  have o0:w2.cell? ⟨w.heap.size + 1,0,none⟩=some (.slice none 0 0):=blk_cell hO9 0 _ rfl
  have of:w2.frozen? ⟨w.heap.size + 1,0,none⟩=false:=by simp [World.frozen?,hO9]
  go_wp2_with fail
  refine bodyPost_ret_by (v:=.tuple #[.agg #[.slice none 0 0],.int .i64 (-1),.slice none 0 0,.int .i64 1]) ?_ rfl ?_
  ·have z:(w2.setCell ⟨w.heap.size + 1,0,none⟩ (.slice none 0 0)).cell? ⟨w.heap.size + 1,0,none⟩=some (.slice none 0 0):=blk_cell (blk_set hO9 0 _) 0 _ rfl
   rw [results_cell_tmp3 rfl]
   simp [go_sem,z]
  ·exact ⟨built_no HX.out _,(bel b0 b3).setCell (by simp) _⟩
 have h3:64 < m∨1001 < n + 2 * m:=by
  rcases h with h | h
  ·rw [h1,h2,hne] at h;simp at h
  ·exact h
 have H2:=Lib.hid h2
 have HX:=Lib.hid (show K.build v l=⟨[],-1,[],6⟩ by
  unfold K.build
  rw [h1,h2,hne,if_neg (by simp),if_pos (by rw [←hl.1,←hv.1];exact h3)])
 have hP9:=hP0
 clear h h1 h2 hm0 hne
 by_cases h64:64 < m
 ·go_enter Try.func55,Try.ntmps55
  go_wp2_with fail
  refine (sound_any A n c v _ (hv.below b0) (by omega)).mono ?_;rw [H1.out];rintro e w1 ⟨rfl,b1⟩
  go_wp2_with fail
  refine (contains_any B m d l _ ((hl.below b0).below b1) (by omega)).mono ?_;rw [H2.out];rintro e w2 ⟨rfl,b2⟩
  have b3:=b1.trans (b2.mono b1.size)
  have hO9:=blk_below b3 hO0
  have o0:w2.cell? ⟨w.heap.size + 1,0,none⟩=some (.slice none 0 0):=blk_cell hO9 0 _ rfl
  have of:w2.frozen? ⟨w.heap.size + 1,0,none⟩=false:=by simp [World.frozen?,hO9]
  go_wp2_with fail
  refine bodyPost_ret_by (v:=.tuple #[.agg #[.slice none 0 0],.int .i64 (-1),.slice none 0 0,.int .i64 6]) ?_ rfl ?_
  ·have z:(w2.setCell ⟨w.heap.size + 1,0,none⟩ (.slice none 0 0)).cell? ⟨w.heap.size + 1,0,none⟩=some (.slice none 0 0):=blk_cell (blk_set hO9 0 _) 0 _ rfl
   rw [results_cell_tmp3 rfl]
   simp [go_sem,z]
  ·exact ⟨built_no HX.out _,(bel b0 b3).setCell (by simp) _⟩
 ·have hbig:decide ((1000:Int) < (n:Int) + 2 * (m:Int) - 1)=true:=by simp;omega
  go_enter Try.func55,Try.ntmps55
  go_wp2_with fail
  refine (sound_any A n c v _ (hv.below b0) (by omega)).mono ?_;rw [H1.out];rintro e w1 ⟨rfl,b1⟩
  go_wp2_with fail
  refine (contains_any B m d l _ ((hl.below b0).below b1) (by omega)).mono ?_;rw [H2.out];rintro e w2 ⟨rfl,b2⟩
  have b3:=b1.trans (b2.mono b1.size)
  have p0:w2.cell? ⟨w.heap.size,0,none⟩=some (.slice A n c):=blk_cell (blk_below b3 hP9) 0 _ rfl
  have hO9:=blk_below b3 hO0
  have o0:w2.cell? ⟨w.heap.size + 1,0,none⟩=some (.slice none 0 0):=blk_cell hO9 0 _ rfl
  have of:w2.frozen? ⟨w.heap.size + 1,0,none⟩=false:=by simp [World.frozen?,hO9]
  go_wp2_with fail
  refine bodyPost_ret_by (v:=.tuple #[.agg #[.slice none 0 0],.int .i64 (-1),.slice none 0 0,.int .i64 6]) ?_ rfl ?_
  ·have z:(w2.setCell ⟨w.heap.size + 1,0,none⟩ (.slice none 0 0)).cell? ⟨w.heap.size + 1,0,none⟩=some (.slice none 0 0):=blk_cell (blk_set hO9 0 _) 0 _ rfl
   rw [results_cell_tmp3 rfl]
   simp [go_sem,z]
  ·exact ⟨built_no HX.out _,(bel b0 b3).setCell (by simp) _⟩
end Vt
namespace Vt
namespace K
def sumv (V:List It):List Int→Int
 | []=>0
 | i :: l=>(get V i).val + sumv V l
def sumb (V:List It):List Int→Int
 | []=>0
 | i :: l=>(get V i).bl + sumb V l
def fine (V:List It) (lv:List Int):Prop:=∀ i ∈ lv,(0≤i∧i < V.length)∧0≤(get V i).val∧0≤(get V i).bl
end K
theorem K.get_old {V W:List It} {i:Int} (h:0≤i∧i < V.length):K.get (V ++ W) i=K.get V i:=by
 unfold K.get
 rw [List.getElem?_append_left (by omega)]
theorem K.get_new (V:List It) (x:It) (W:List It):K.get (V ++ x :: W) (V.length:Int)=x:=by
 unfold K.get
 rw [Int.toNat_natCast,List.getElem?_append_right (Nat.le_refl _),Nat.sub_self]
 rfl
theorem K.fine_app {V W:List It} {lv:List Int} (h:K.fine V lv):K.fine (V ++ W) lv:=by
 intro i hi
 obtain ⟨h1,h2,h3⟩:=h i hi
 rw [K.get_old h1]
 exact ⟨⟨h1.1,by rw [List.length_append];omega⟩,h2,h3⟩
theorem K.sumv_app {V W:List It}:∀ {lv:List Int},K.fine V lv→K.sumv (V ++ W) lv=K.sumv V lv:=by
 intro lv
 induction lv with
 | nil=>intro _;rfl
 | cons i lv ih =>
  intro h
  simp only [K.sumv]
  rw [ih fun j hj=>h j (List.mem_cons_of_mem _ hj),K.get_old (h i List.mem_cons_self).1]
theorem K.sumb_app {V W:List It}:∀ {lv:List Int},K.fine V lv→K.sumb (V ++ W) lv=K.sumb V lv:=by
 intro lv
 induction lv with
 | nil=>intro _;rfl
 | cons i lv ih =>
  intro h
  simp only [K.sumb]
  rw [ih fun j hj=>h j (List.mem_cons_of_mem _ hj),K.get_old (h i List.mem_cons_self).1]
theorem K.sumv_mem {V:List It}:∀ {lv:List Int},K.fine V lv→(0≤K.sumv V lv∧∀ i ∈ lv,(K.get V i).val≤K.sumv V lv):=by
 intro lv
 induction lv with
 | nil=>intro _;exact ⟨Int.le_refl _,fun i hi=>by simp at hi⟩
 | cons j lv ih =>
  intro h
  obtain ⟨h1,h2⟩:=ih fun i hi=>h i (List.mem_cons_of_mem _ hi)
  have hj:=(h j List.mem_cons_self).2.1
  refine ⟨by simp only [K.sumv];omega,fun i hi=>?_⟩
  simp only [K.sumv]
  rcases List.mem_cons.1 hi with rfl | hi
  ·omega
  ·have:=h2 i hi;omega
theorem K.sumb_mem {V:List It}:∀ {lv:List Int},K.fine V lv→(0≤K.sumb V lv∧∀ i ∈ lv,(K.get V i).bl≤K.sumb V lv):=by
 intro lv
 induction lv with
 | nil=>intro _;exact ⟨Int.le_refl _,fun i hi=>by simp at hi⟩
 | cons j lv ih =>
  intro h
  obtain ⟨h1,h2⟩:=ih fun i hi=>h i (List.mem_cons_of_mem _ hi)
  have hj:=(h j List.mem_cons_self).2.2
  refine ⟨by simp only [K.sumb];omega,fun i hi=>?_⟩
  simp only [K.sumb]
  rcases List.mem_cons.1 hi with rfl | hi
  ·omega
  ·have:=h2 i hi;omega
theorem K.pair_fine:∀ (m:Nat) (lv:List Int) (V:List It),lv.length≤m→K.fine V lv →
  K.fine (K.pairUp V lv).1 (K.pairUp V lv).2∧K.sumv (K.pairUp V lv).1 (K.pairUp V lv).2=K.sumv V lv∧K.sumb (K.pairUp V lv).1 (K.pairUp V lv).2=K.sumb V lv ∧
   (∃ W,(K.pairUp V lv).1=V ++ W)∧(K.pairUp V lv).1.length + (K.pairUp V lv).2.length=V.length + lv.length∧2 * (K.pairUp V lv).2.length≤lv.length + 1∧lv.length≤2 * (K.pairUp V lv).2.length:=by
 intro m
 induction m with
 | zero =>
  intro lv V hm h
  have:lv=[]:=List.length_eq_zero_iff.1 (by omega)
  subst this
  exact ⟨h,rfl,rfl,⟨[],by simp [K.pairUp]⟩,rfl,by simp [K.pairUp],by simp⟩
 | succ m ih =>
  intro lv V hm h
  rcases lv with _ | ⟨a,_ | ⟨b,r⟩⟩
  ·exact ⟨h,rfl,rfl,⟨[],by simp [K.pairUp]⟩,rfl,by simp [K.pairUp],by simp⟩
  ·exact ⟨h,rfl,rfl,⟨[],by simp [K.pairUp]⟩,rfl,by simp [K.pairUp],by simp [K.pairUp]⟩
  ·have ha:=h a List.mem_cons_self
   have hb:=h b (List.mem_cons_of_mem _ List.mem_cons_self)
   have hr:K.fine V r:=fun i hi=>h i (List.mem_cons_of_mem _ (List.mem_cons_of_mem _ hi))
   have hr1:K.fine (V ++ [K.sumIt V a b]) r:=K.fine_app hr
   obtain ⟨g1,g2,g3,⟨W,g4⟩,g5,g6,g7⟩:=ih r (V ++ [K.sumIt V a b]) (by simp at hm;omega) hr1
   have hget:K.get (K.pairUp (V ++ [K.sumIt V a b]) r).1 (V.length:Int)=K.sumIt V a b:=by
    rw [g4,List.append_assoc];exact K.get_new V _ W
   simp only [K.pairUp]
   refine ⟨?_,?_,?_,⟨K.sumIt V a b :: W,by rw [g4];simp⟩,?_,?_,?_⟩
   ·intro i hi
    rcases List.mem_cons.1 hi with rfl | hi
    ·rw [hget]
     refine ⟨⟨by omega,by rw [g4];simp;omega⟩,?_,?_⟩
     ·show 0≤(K.get V a).val + (K.get V b).val;omega
     ·show 0≤(K.get V a).bl + (K.get V b).bl;omega
    ·exact g1 i hi
   ·simp only [K.sumv]
    rw [hget,g2,K.sumv_app hr]
    show (K.get V a).val + (K.get V b).val + _=_;omega
   ·simp only [K.sumb]
    rw [hget,g3,K.sumb_app hr]
    show (K.get V a).bl + (K.get V b).bl + _=_;omega
   ·simp only [List.length_cons,List.length_append,List.length_nil] at g5 ⊢;omega
   ·simp only [List.length_cons] at g6 ⊢;omega
   ·simp only [List.length_cons] at g7 ⊢;omega
theorem K.pair_next {V V':List It} {lv nx:List Int} {t:Nat} {a b:Int} (h:K.pairUp V lv=((K.pairUp V' (lv.drop (2 * t))).1,nx ++ (K.pairUp V' (lv.drop (2 * t))).2)) (ha:lv[2 * t]? = some a) (hb:lv[2 * t + 1]? = some b) :
  K.pairUp V lv=((K.pairUp (V' ++ [K.sumIt V' a b]) (lv.drop (2 * (t + 1)))).1,(nx ++ [(V'.length:Int)]) ++ (K.pairUp (V' ++ [K.sumIt V' a b]) (lv.drop (2 * (t + 1)))).2):=by
 obtain ⟨h1,e1⟩:=List.getElem?_eq_some_iff.1 ha
 obtain ⟨h2,e2⟩:=List.getElem?_eq_some_iff.1 hb
 rw [h,List.drop_eq_getElem_cons h1,e1,List.drop_eq_getElem_cons h2,e2]
 simp only [K.pairUp,List.append_assoc,List.cons_append,List.nil_append]
 rw [show 2 * (t + 1)=2 * t + 1 + 1 by omega]
theorem K.leaf_get (v:List It) (l:List Ln) (i:Nat) (x:Ln) (hx:l[i]? = some x):K.get (v ++ l.map K.leafIt) ((v.length + i:Nat):Int)=K.leafIt x:=by
 unfold K.get
 rw [Int.toNat_natCast,List.getElem?_append_right (by omega),Nat.add_sub_cancel_left,List.getElem?_map,hx]
 rfl
end Vt
namespace Vt
structure Bld (base bb:Nat) (w:World) (vv:Value) (V:List It):Prop where
 blk:w.heap[bb]? = some (.cells #[vv] 169 (0,0))
 own:w.ownsRow base 167 4 vv V.length (itemCells V)
 ne:vv.ownBlock ≠ some bb
structure Apart (base bb:Nat) (w:World) (vv u:Value) (l:List Int):Prop where
 own:w.ownsRow base 3 1 u l.length (intCells l)
 ne:u.ownBlock ≠ some bb
 dis:∀ g,u.ownBlock=some g→vv.ownBlock ≠ some g
theorem own_grow {w w':World} {r:Option Nat} (h:w.grownBy w' r) {base:Nat} {e:TypeId} {size n:Nat} {v:Value} {xs:List Value} (ho:w.ownsRow base e size v n xs) (hr:∀ g,v.ownBlock=some g→r ≠ some g):w'.ownsRow base e size v n xs:=by
 obtain ⟨hl,h1 | ⟨g,cap,cur,hv,hbg,hh,rest⟩⟩:=ho
 ·exact ⟨hl,.inl h1⟩
 ·refine ⟨hl,.inr ⟨g,cap,cur,hv,hbg,?_,rest⟩⟩
  rw [h.block g (Array.getElem?_eq_some_iff.1 hh).1 (fun e=>hr g (by rw [hv];rfl) e.symm)]
  exact hh
theorem bld_append {base bb:Nat} {w5 w6:World} {vv u u':Value} {V:List It} {l l':List Int} {o:Obj} (hB:Bld base bb w5 vv V) (hU:Apart base bb w5 vv u l) (hg:(w5.alloc o).grownBy w6 u.ownBlock) (ho:w6.ownsRow base 3 1 u' l'.length (intCells l'))
  (hat:u'.ownBlock=u.ownBlock∨u'.ownBlock=some (w5.alloc o).heap.size):Bld base bb w6 vv V∧Apart base bb w6 vv u' l':=by
 have sz:=World.size_alloc w5 o
 have hbw:=lt_of_block hB.blk
 refine ⟨⟨grow_blk hg (blk_alloc hB.blk o) (fun e=>hU.ne e.symm),own_grow hg (hB.own.alloc o) (fun g h e=>hU.dis g e h),hB.ne⟩,⟨ho,fun e=>?_,fun g h e=>?_⟩⟩
 ·rcases hat with h | h
  ·exact hU.ne (h ▸ e)
  ·rw [h] at e;injection e with e;omega
 ·rcases hat with h' | h'
  ·exact hU.dis g (h' ▸ h) e
  ·rw [h'] at h;injection h with h
   have:=(hB.own.lt g e).2
   omega
theorem Bld.below {base bb:Nat} {w w':World} {vv:Value} {V:List It} (h:Bld base bb w vv V) (hb:Below w.heap.size w w'):Bld base bb w' vv V:=⟨blk_below hb h.blk,own_below h.own hb,h.ne⟩
theorem Apart.below {base bb:Nat} {w w':World} {vv u:Value} {l:List Int} (h:Apart base bb w vv u l) (hb:Below w.heap.size w w'):Apart base bb w' vv u l:=⟨own_below h.own hb,h.ne,h.dis⟩
theorem Apart.nil (base bb:Nat) (w:World) (vv:Value):Apart base bb w vv (.slice none 0 0) []:=⟨World.ownsRow_nil _ _ _ _,by simp [Value.ownBlock],fun g h=>by cases h⟩
theorem Apart.two {base bb:Nat} {w w':World} {vv vv' u:Value} {l:List Int} (h:Apart base bb w vv u l) (hT:Two w w' bb vv.ownBlock) (hN:vv'.ownBlock=vv.ownBlock∨∃ k,vv'.ownBlock=some k∧w.heap.size≤k):Apart base bb w' vv' u l :=
 ⟨hT.own h.own h.ne h.dis,h.ne,fun g hg e=>by
  rcases hN with h9 | ⟨k,h9,h8⟩
  ·exact h.dis g hg (h9 ▸ e)
  ·rw [h9] at e;injection e with e
   have:=(h.own.lt g hg).2
   omega⟩
theorem Apart.grow {base bb:Nat} {w w':World} {vv u x:Value} {l:List Int} (h:Apart base bb w vv u l) (hg:w.grownBy w' x.ownBlock) (hx:∀ g,u.ownBlock=some g→x.ownBlock ≠ some g):Apart base bb w' vv u l :=
 ⟨own_grow hg h.own hx,h.ne,h.dis⟩
structure St (base bb:Nat) (w:World) (vv:Value) (V:List It) (u:Value) (lu:List Int) (q:Value) (lq:List Int) (x:Value) (lx:List Int):Prop where
 B:Bld base bb w vv V
 U:Apart base bb w vv u lu
 Q:Apart base bb w vv q lq
 N:Apart base bb w vv x lx
 nu:∀ g,u.ownBlock=some g→x.ownBlock ≠ some g
 nq:∀ g,q.ownBlock=some g→x.ownBlock ≠ some g
theorem St.below {base bb:Nat} {w w':World} {vv:Value} {V:List It} {u:Value} {lu:List Int} {q:Value} {lq:List Int} {x:Value} {lx:List Int} (h:St base bb w vv V u lu q lq x lx) (hb:Below w.heap.size w w'):St base bb w' vv V u lu q lq x lx :=
 ⟨h.B.below hb,h.U.below hb,h.Q.below hb,h.N.below hb,h.nu,h.nq⟩
theorem St.added {base bb:Nat} {w w':World} {vv vv':Value} {V V':List It} {u:Value} {lu:List Int} {q:Value} {lq:List Int} {x:Value} {lx:List Int} (h:St base bb w vv V u lu q lq x lx)
  (hb:w'.heap[bb]? = some (.cells #[vv'] 169 (0,0))) (ho:w'.ownsRow base 167 4 vv' V'.length (itemCells V')) (hT:Two w w' bb vv.ownBlock) (hN:vv'.ownBlock=vv.ownBlock∨∃ k,vv'.ownBlock=some k∧w.heap.size≤k) (hne:vv'.ownBlock ≠ some bb):St base bb w' vv' V' u lu q lq x lx :=
 ⟨⟨hb,ho,hne⟩,h.U.two hT hN,h.Q.two hT hN,h.N.two hT hN,h.nu,h.nq⟩
theorem St.app {base bb:Nat} {w w':World} {vv:Value} {V:List It} {u:Value} {lu:List Int} {q:Value} {lq:List Int} {x x':Value} {lx lx':List Int} {o:Obj} (h:St base bb w vv V u lu q lq x lx)
  (hg:(w.alloc o).grownBy w' x.ownBlock) (ho:w'.ownsRow base 3 1 x' lx'.length (intCells lx')) (hat:x'.ownBlock=x.ownBlock∨x'.ownBlock=some (w.alloc o).heap.size):St base bb w' vv V u lu q lq x' lx':=by
 obtain ⟨hB,hN⟩:=bld_append h.B h.N hg ho hat
 have sz:=World.size_alloc w o
 have hb:Below w.heap.size w (w.alloc o):=(Below.refl _ _).alloc (Nat.le_refl _) _
 refine ⟨hB,(h.U.below hb).grow hg h.nu,(h.Q.below hb).grow hg h.nq,hN,fun g h1 h2=>?_,fun g h1 h2=>?_⟩
 ·rcases hat with e | e
  ·exact h.nu g h1 (e ▸ h2)
  ·rw [e] at h2;injection h2 with h2
   have:=(h.U.own.lt g h1).2
   omega
 ·rcases hat with e | e
  ·exact h.nq g h1 (e ▸ h2)
  ·rw [e] at h2;injection h2 with h2
   have:=(h.Q.own.lt g h1).2
   omega
theorem St.start {base bb:Nat} {w:World} {vv:Value} {V:List It} {u:Value} {lu:List Int} {q:Value} {lq:List Int} (hB:Bld base bb w vv V) (hU:Apart base bb w vv u lu) (hQ:Apart base bb w vv q lq):St base bb w vv V u lu q lq (.slice none 0 0) [] :=
 ⟨hB,hU,hQ,Apart.nil _ _ _ _,by simp [Value.ownBlock],by simp [Value.ownBlock]⟩
structure Same3 (w w':World) (b:Nat) (r s:Option Nat):Prop where
 os:w'.os=w.os
 tape:w'.tape=w.tape
 output:w'.output=w.output
 size:w.heap.size≤w'.heap.size
 block:∀ k,k < w.heap.size→k ≠ b→some k ≠ r→some k ≠ s→w'.heap[k]? = w.heap[k]?
theorem Same3.refl (w:World) (b:Nat) (r s:Option Nat):Same3 w w b r s:=⟨rfl,rfl,rfl,Nat.le_refl _,fun _ _ _ _ _=>rfl⟩
theorem Same3.below {w w1 w2:World} {b:Nat} {r s:Option Nat} (h:Same3 w w1 b r s) (hb:Below w1.heap.size w1 w2):Same3 w w2 b r s :=
 ⟨hb.os.trans h.os,hb.tape.trans h.tape,hb.output.trans h.output,Nat.le_trans h.size hb.size,fun k hk h1 h2 h3=>(hb.block k (Nat.lt_of_lt_of_le hk h.size)).trans (h.block k hk h1 h2 h3)⟩
theorem Same3.low {B:Nat} {a w w':World} {b:Nat} {r s:Option Nat} (h:Same3 w w' b r s) (hb:Below B a w) (hB:B≤w.heap.size) (h1:B≤b) (h2:∀ k,r=some k→B≤k) (h3:∀ k,s=some k→B≤k):Below B a w' :=
 hb.trans ⟨h.os,h.tape,h.output,h.size,fun k hk=>h.block k (by omega) (by omega) (fun e=>by have:=h2 k e.symm;omega) (fun e=>by have:=h3 k e.symm;omega)⟩
namespace K
def blinds:List Ln→Int
 | []=>0
 | x :: l=>x.bl + blinds l
structure Ok (V:List It) (lv:List Int) (X Y:Int):Prop where
 fine:K.fine V lv
 v:K.sumv V lv≤X
 b:K.sumb V lv≤Y
end K
theorem K.blinds_bound {l:List Ln} (h:∀ x ∈ l,K.right x=true):0≤K.blinds l∧K.blinds l≤1099511627776 * l.length:=by
 induction l with
 | nil=>simp [K.blinds]
 | cons x l ih =>
  have h1:=K.right_cents (h x List.mem_cons_self)
  have h2:=ih fun y hy=>h y (List.mem_cons_of_mem _ hy)
  simp only [K.blinds,List.length_cons]
  omega
theorem K.leaves_sums (v:List It):∀ (l l0:List Ln),K.sumv (v ++ (l0 ++ l).map K.leafIt) ((List.range' l0.length l.length).map fun i=>((v.length + i:Nat):Int))=K.cents l∧K.sumb (v ++ (l0 ++ l).map K.leafIt) ((List.range' l0.length l.length).map fun i=>((v.length + i:Nat):Int))=K.blinds l:=by
 intro l
 induction l with
 | nil=>intro l0;exact ⟨rfl,rfl⟩
 | cons x l ih =>
  intro l0
  have h:=ih (l0 ++ [x])
  rw [List.length_append,List.append_assoc,List.cons_append,List.nil_append] at h
  have hx:(l0 ++ x :: l)[l0.length]? = some x:=by simp
  have hg:=K.leaf_get v (l0 ++ x :: l) l0.length x hx
  simp only [List.length_cons,List.range'_succ,List.map_cons,K.sumv,K.sumb,K.cents,K.blinds]
  rw [hg]
  simp only [List.length_cons,List.length_nil,Nat.zero_add] at h
  rw [h.1,h.2]
  exact ⟨rfl,rfl⟩
theorem K.leaves_sum (v:List It) (l:List Ln):K.sumv (v ++ l.map K.leafIt) (K.idx v.length l)=K.cents l∧K.sumb (v ++ l.map K.leafIt) (K.idx v.length l)=K.blinds l:=by
 have h:=K.leaves_sums v l []
 rw [List.nil_append,List.length_nil] at h
 unfold K.idx
 rw [List.range_eq_range']
 exact h
theorem K.leaves_fine {v:List It} {l:List Ln} (h:∀ x ∈ l,K.right x=true):K.fine (v ++ l.map K.leafIt) (K.idx v.length l):=by
 intro i hi
 obtain ⟨j,hj,rfl⟩:=List.mem_map.1 hi
 rw [List.mem_range] at hj
 have hx:l[j]? = some (l[j]'hj):=List.getElem?_eq_getElem hj
 have:=K.right_cents (h _ (List.getElem_mem hj))
 rw [K.leaf_get v l j _ hx]
 exact ⟨⟨by omega,by rw [List.length_append,List.length_map];omega⟩,this.1,this.2.2.1⟩
theorem K.drop_two {lv:List Int} {t:Nat} {a b:Int} (ha:lv[2 * t]? = some a) (hb:lv[2 * t + 1]? = some b):lv.drop (2 * t)=a :: b :: lv.drop (2 * (t + 1)):=by
 obtain ⟨h1,e1⟩:=List.getElem?_eq_some_iff.1 ha
 obtain ⟨h2,e2⟩:=List.getElem?_eq_some_iff.1 hb
 rw [List.drop_eq_getElem_cons h1,e1,List.drop_eq_getElem_cons h2,e2,show 2 * (t + 1)=2 * t + 1 + 1 by omega]
theorem K.Ok.two {V:List It} {a b:Int} {r:List Int} {X Y:Int} (h:K.Ok V (a :: b :: r) X Y) :
  (0≤a∧a < V.length)∧(0≤b∧b < V.length)∧(0≤(K.get V a).val∧0≤(K.get V b).val∧(K.get V a).val + (K.get V b).val≤X)∧(0≤(K.get V a).bl∧0≤(K.get V b).bl∧(K.get V a).bl + (K.get V b).bl≤Y)∧∀ x,K.Ok (V ++ [x]) r X Y:=by
 have ha:=h.fine a List.mem_cons_self
 have hb:=h.fine b (List.mem_cons_of_mem _ List.mem_cons_self)
 have hr:K.fine V r:=fun i hi=>h.fine i (List.mem_cons_of_mem _ (List.mem_cons_of_mem _ hi))
 have h1:=K.sumv_mem hr
 have h2:=K.sumb_mem hr
 have hv:=h.v
 have hbl:=h.b
 simp only [K.sumv,K.sumb] at hv hbl
 refine ⟨ha.1,hb.1,⟨ha.2.1,hb.2.1,by omega⟩,⟨ha.2.2,hb.2.2,by omega⟩,fun x=>⟨K.fine_app hr,by rw [K.sumv_app hr];omega,by rw [K.sumb_app hr];omega⟩⟩
theorem K.levels_step {f:Nat} {V:List It} {lv:List Int} (h:1 < lv.length) (hf:lv.length≤f + 1):K.levels (f + 1) V lv=K.levels f (K.pairUp V lv).1 (K.pairUp V lv).2:=by
 have:=hf
 simp only [K.levels]
 rw [if_neg (by omega)]
theorem K.levels_end (f:Nat) (V:List It) (z:Int):K.levels f V [z] = (V,z):=by
 cases f <;> simp [K.levels]
theorem K.pair_even {V V':List It} {lv nx:List Int} {t:Nat} (h:K.pairUp V lv=((K.pairUp V' (lv.drop (2 * t))).1,nx ++ (K.pairUp V' (lv.drop (2 * t))).2)) (hl:lv.length≤2 * t):K.pairUp V lv=(V',nx):=by
 rw [h,List.drop_eq_nil_iff.2 hl]
 simp [K.pairUp]
theorem K.pair_odd {V V':List It} {lv nx:List Int} {t:Nat} {z:Int} (h:K.pairUp V lv=((K.pairUp V' (lv.drop (2 * t))).1,nx ++ (K.pairUp V' (lv.drop (2 * t))).2)) (hl:lv.length=2 * t + 1) (hz:lv[2 * t]? = some z):K.pairUp V lv=(V',nx ++ [z]):=by
 obtain ⟨h1,e1⟩:=List.getElem?_eq_some_iff.1 hz
 rw [h,List.drop_eq_getElem_cons h1,e1,List.drop_eq_nil_iff.2 (by omega)]
 simp [K.pairUp]
theorem K.level_up {V V':List It} {lv nl:List Int} {X Y:Int} {f c:Nat} {r:List It × Int} (hp:K.pairUp V lv=(V',nl)) (hok:K.Ok V lv X Y) (h1:1 < lv.length) (hr:r=K.levels f V lv) (hf:lv.length≤f) (hc:V.length + lv.length=c) :
  K.Ok V' nl X Y∧(∃ g,r=K.levels g V' nl∧nl.length≤g)∧V'.length + nl.length=c∧nl.length < lv.length∧0 < nl.length:=by
 obtain ⟨g1,g2,g3,_,g5,g6,g7⟩:=K.pair_fine lv.length lv V (Nat.le_refl _) hok.fine
 rw [hp] at g1 g2 g3 g5 g6 g7
 obtain ⟨g,rfl⟩:∃ g,f=g + 1:=⟨f - 1,by omega⟩
 refine ⟨⟨g1,by rw [g2];exact hok.v,by rw [g3];exact hok.b⟩,⟨g,by rw [hr,K.levels_step h1 hf,hp],by simp only at g6;omega⟩,by rw [←hc];exact g5,by simp only at g6;omega,by simp only at g7;omega⟩
theorem K.even_no {n t:Nat} (h:n=2 * t):((n:Int) % 2 == 1)=false:=by
 rw [beq_eq_false_iff_ne];omega
theorem K.odd_yes {n t:Nat} (h:n=2 * t + 1):((n:Int) % 2 == 1)=true:=by
 rw [beq_iff_eq];omega
theorem own_low {w:World} {a b:Nat} {e:TypeId} {size n:Nat} {v:Value} {xs:List Value} (h:w.ownsRow b e size v n xs) (hab:a≤b):w.ownsRow a e size v n xs:=by
 obtain ⟨hl,h1 | ⟨g,cap,cur,hv,hbg,rest⟩⟩:=h
 ·exact ⟨hl,.inl h1⟩
 ·exact ⟨hl,.inr ⟨g,cap,cur,hv,Nat.le_trans hab hbg,rest⟩⟩
theorem Apart.fresh {base bb:Nat} {w w':World} {vv q:Value} {V:List It} {l:List Int} (hB:Bld base bb w vv V) (hq:w'.ownsRow w.heap.size 3 1 q l.length (intCells l)) (hbase:base≤w.heap.size):Apart base bb w' vv q l :=
 ⟨own_low hq hbase,fun e=>by have:=(hq.lt bb e).1;have:=lt_of_block hB.blk;omega,fun g h e=>by have:=(hq.lt g h).1;have:=(hB.own.lt g e).2;omega⟩
theorem own_ints_at {w:World} {base:Nat} {A:Option Addr} {n c:Nat} {l:List Int} (h:w.ownsRow base 3 1 (.slice A n c) l.length (intCells l)):Ints w A l.length l:=by
 obtain ⟨A',c',e,hr,_⟩:=own_form h
 injection e with e1 e2 e3
 subst e1
 exact ⟨rfl,hr⟩
theorem own_len {w:World} {base:Nat} {e:TypeId} {size n:Nat} {v:Value} {xs:List Value} (h:w.ownsRow base e size v n xs):∃ A c,v=.slice A n c:=by
 obtain ⟨A',c',e,_⟩:=own_form h
 exact ⟨A',c',e⟩
def vlen:Value→Nat
 | .slice _ n _=>n
 | _=>0
theorem K.get_at {V:List It} {i:Nat} {x:It} (h:V[i]? = some x):K.get V (i:Int)=x:=by
 unfold K.get
 rw [Int.toNat_natCast,h];rfl
theorem add_pos (a:Addr) (i:Nat):a.add (i + 1)=⟨a.block,a.off + (i + 1),none⟩:=by unfold Addr.add;rw [if_neg (by omega)]
theorem Same3.cell {w w':World} {b:Nat} {r s:Option Nat} (h:Same3 w w' b r s) {a:Addr} {x:Value} (hc:w.cell? a=some x) (h1:a.block ≠ b) (h2:some a.block ≠ r) (h3:some a.block ≠ s):w'.cell? a=some x:=by
 rw [World.cell?_of_block (h.block _ (cell_lt hc) h1 h2 h3)];exact hc
theorem Same3.two {w w1 w2:World} {b:Nat} {r s:Option Nat} (h:Same3 w w1 b r s) (hT:Two w1 w2 b r):Same3 w w2 b r s :=
 ⟨hT.os.trans h.os,hT.tape.trans h.tape,hT.output.trans h.output,Nat.le_trans h.size hT.size,fun k hk h1 h2 h3=>(hT.block k (Nat.lt_of_lt_of_le hk h.size) h1 h2).trans (h.block k hk h1 h2 h3)⟩
theorem Same3.grow {w w1 w2:World} {b:Nat} {r s:Option Nat} (h:Same3 w w1 b r s) (hg:w1.grownBy w2 s):Same3 w w2 b r s :=
 ⟨hg.os.trans h.os,hg.tape.trans h.tape,hg.output.trans h.output,Nat.le_trans h.size hg.size,fun k hk h1 h2 h3=>(hg.block k (Nat.lt_of_lt_of_le hk h.size) h3).trans (h.block k hk h1 h2 h3)⟩
end Vt
namespace Vt
theorem new_int (w:World) (p:Int):∀ (j:Nat) (u:Value),([Value.int .i64 p])[j]? = some u→(w.alloc (.cells #[.int .i64 p] 3)).cell? ((⟨w.heap.size,0,none⟩:Addr).add j)=some u:=fun j u hu=>by
 rw [add_zero_block]
 exact blk_cell (heap_alloc_new w _) j u (by simpa using hu)
theorem one_int (p:Int):∀ u ∈ [Value.int .i64 p],u.oneCell'=true:=fun u hu=>by
 simp at hu;subst hu;rfl
theorem Same3.set {w w1:World} {b:Nat} {r s:Option Nat} (h:Same3 w w1 b r s) (i:Nat) (x:Value):Same3 w (w1.setCell ⟨b,i,none⟩ x) b r s :=
 ⟨h.os,h.tape,h.output,by show _≤(w1.heap.modify _ _).size;rw [Array.size_modify];exact h.size,fun k hk h1 h2 h3=>(Below.heap_setCell w1 ⟨b,i,none⟩ x k h1).trans (h.block k hk h1 h2 h3)⟩
set_option maxRecDepth 100000 in
set_option maxHeartbeats 16000000 in
theorem build_yes (A:Option Addr) (n c:Nat) (v:List It) (B:Option Addr) (m d:Nat) (l:List Ln) (w:World) (hv:Items w A n v) (hl:Lines w B m l)
  (h1:K.sound v=true) (h2:(l.any fun x=>!K.right x)=false) (hm0:m ≠ 0) (hm:m≤64) (hnm:n + 2 * m≤1001) :
  Calls Try.prog 55 #[.agg #[.slice A n c],.slice B m d] w fun e w'=>BuiltAt (K.build v l) e w'∧Below w.heap.size w w':=by
 have b0:=((Below.refl w.heap.size w).alloc (Nat.le_refl _) (.cells #[.slice A n c] 118)).alloc (by simp) (.cells #[.slice none 0 0] 118)
 have hP0:=blk_alloc (vbox w A n c) (.cells #[.slice none 0 0] 118)
 have sz:=World.size_alloc w (.cells #[.slice A n c] 118)
 have hO0:((w.alloc (.cells #[.slice A n c] 118)).alloc (.cells #[.slice none 0 0] 118)).heap[w.heap.size + 1]? = some (.cells #[.slice none 0 0] 118 (0,0)):=heap_alloc_at _ _ _ sz.symm
 have H1:=Lib.hid h1
 have H2:=Lib.hid h2
 have hri:∀ x ∈ l,K.right x=true:=fun x hx=>by
  have:=List.any_eq_false.1 h2 x hx
  simpa using this
 have HRI:=Lib.hid hri
 have e0:((m:Int) == 0)=false:=by simp;omega
 have hne:l.isEmpty=false:=by
  cases l with
  | nil=>exact absurd hl.1 hm0
  | cons a l=>rfl
 have HB:=Lib.hid (show K.build v l=if 1125899906842624 < K.cents l then ⟨[],-1,[],3⟩ else ⟨(K.levels l.length (v ++ l.map K.leafIt) (K.idx v.length l)).1,(K.levels l.length (v ++ l.map K.leafIt) (K.idx v.length l)).2,K.idx v.length l,0⟩ by
  unfold K.build
  rw [h1,h2,hne,if_neg (by simp),if_neg (by rw [←hl.1,←hv.1];omega)])
 have HCE:=Lib.hid (fun k (hk:k≤m)=>show 0≤K.cents (l.take k)∧K.cents (l.take k)≤1125899906842624 * 64 from by
  have:=K.cents_bound (l:=l.take k) fun x hx=>hri x (List.mem_of_mem_take hx)
  have h9:(l.take k).length≤64:=by rw [List.length_take,←hl.1];omega
  omega)
 have h64:decide ((64:Int) < (m:Int))=false:=by simp;omega
 have hbig:decide ((1000:Int) < (n:Int) + 2 * (m:Int) - 1)=false:=by simp;omega
 clear h1 h2 hri hne hm0
 go_enter Try.func55,Try.ntmps55
 go_wp2_with fail
 refine (sound_any A n c v _ (hv.below b0) (by omega)).mono ?_;rw [H1.out];rintro e w1 ⟨rfl,b1⟩
 go_wp2_with fail
 refine (contains_any B m d l _ ((hl.below b0).below b1) (by omega)).mono ?_;rw [H2.out];rintro e w2 ⟨rfl,b2⟩
 have b3:=b1.trans (b2.mono b1.size)
 have hP2:=blk_below b3 hP0
 have hO2:=blk_below b3 hO0
 have hb2:=bel b0 b3
 have p0:w2.cell? ⟨w.heap.size,0,none⟩=some (.slice A n c):=blk_cell hP2 0 _ rfl
 clear b1 b2 b3 b0 hP0 hO0 sz
 go_wp2_with fail
 refine (clone_items A n c v _ (hv.below hb2) (by omega)).mono ?_
 rintro e w3 ⟨⟨vv,rfl,hvv⟩,b3⟩
 obtain ⟨Av,cv,rfl,_,h9⟩:=own_form hvv
 have hbb:(Value.slice Av n cv).ownBlock ≠ some w3.heap.size:=fun e=>by
  have:=(h9 _ e).2;omega
 clear h9
 have bld0:Bld w2.heap.size w3.heap.size (w3.alloc (.cells #[.slice Av n cv] 169)) (.slice Av n cv) v:=⟨(MapKept.heap_alloc w3 _).1,by rw [←hv.1];exact hvv.alloc _,hbb⟩
 have b4:=b3.alloc b3.size (.cells #[.slice Av n cv] 169)
 clear hvv hbb p0 hP2
 go_wp2_with fail
 obtain ⟨w4,hw4⟩:∃ w4,w4=w3.alloc (.cells #[.slice Av n cv] 169):=⟨_,rfl⟩
 rw [←hw4] at bld0 b4 ⊢
 have hbb2:w2.heap.size≤w3.heap.size:=b3.size
 have hbb4:w3.heap.size < w4.heap.size:=lt_of_block bld0.blk
 clear hw4
 generalize w3.heap.size=bb at *
 clear b3
 go_loopw [6,9,54] (fun vu vs vi wr=>∃ (k:Nat) (vv:Value),vi=.int .i64 k∧k≤m∧vs=.int .i64 (K.cents (l.take k))∧Bld w2.heap.size bb wr vv (v ++ (l.take k).map K.leafIt)∧Apart w2.heap.size bb wr vv vu (K.idx n (l.take k))∧Below w2.heap.size w2 wr) (fun _ _ vi _=>m - (intOf vi).toNat)
 case atStart=>exact ⟨0,.slice Av n cv,rfl,by omega,rfl,by simpa using bld0,⟨World.ownsRow_nil _ _ _ _,by simp [Value.ownBlock],fun g h=>by cases h⟩,b4⟩
 case round =>
  obtain ⟨k,vv,rfl,hk,rfl,hB,hU,hbr⟩:=hrel
  have hbw:=bel hb2 hbr
  obtain ⟨sk,hsk⟩:∃ x,x=K.cents (l.take k):=⟨_,rfl⟩
  obtain ⟨s0,s1⟩:=HCE.out k hk
  rw [←hsk] at s0 s1 ⊢
  by_cases hlt:k < m
  ·obtain ⟨adl,x,rfl,hx,c0,c1,c2⟩:=Lines.at_ (hl.below hbw) hlt
   have hxr:=K.right_cents (HRI.out x (List.mem_of_getElem? hx))
   have HS:=Lib.hid (show K.cents (l.take (k + 1))=sk + x.cents by rw [take_snoc hx,K.cents_snoc,hsk])
   have HI:=Lib.hid (show K.idx n (l.take (k + 1))=K.idx n (l.take k) ++ [((n + k:Nat):Int)] by
    rw [take_snoc hx,K.idx_snoc,List.length_take,←hl.1,Nat.min_eq_left hk])
   have HV:=Lib.hid (show v ++ (l.take (k + 1)).map K.leafIt=(v ++ (l.take k).map K.leafIt) ++ [K.leafIt x] by
    rw [take_snoc hx,List.map_append,List.append_assoc];rfl)
   have hlen:(v ++ (l.take k).map K.leafIt).length=n + k:=by
    rw [List.length_append,List.length_map,List.length_take,←hl.1,←hv.1,Nat.min_eq_left hk]
   have hul:(K.idx n (l.take k)).length=k:=by rw [K.idx_len,List.length_take,←hl.1,Nat.min_eq_left hk]
   have HSK:=Lib.hid hsk
   clear hx hsk
   go_wp2_with fail
   obtain ⟨wa,hwa⟩:∃ wa,wa=wr.alloc (.cells #[.int .i64 x.hh,.int .i64 x.cents,.int .i64 x.bl] 122):=⟨_,rfl⟩
   have hba:Below wr.heap.size wr wa:=by rw [hwa];exact (Below.refl _ _).alloc (Nat.le_refl _) _
   have hbra:=hbr.trans (hba.mono hbr.size)
   rw [←hwa]
   clear hwa
   refine (add_any bb w2.heap.size vv (n + k) (v ++ (l.take k).map K.leafIt) (K.leafIt x) wa (blk_below hba hB.blk) (own_below (by have:=hB.own;rwa [hlen] at this) hba) hB.ne hbra.size (by omega)).mono ?_
   rintro e w5 ⟨rfl,vv',hb',ho',hT,hN,hne'⟩
   have hB5:Bld w2.heap.size bb w5 vv' ((v ++ (l.take k).map K.leafIt) ++ [K.leafIt x]):=⟨hb',by rw [List.length_append,hlen];exact ho',hne'⟩
   have hU5:Apart w2.heap.size bb w5 vv' u6 (K.idx n (l.take k)):=⟨hT.own (own_below hU.own hba) hU.ne hU.dis,hU.ne,fun g h e=>by
    rcases hN with h9 | ⟨k9,h9,h8⟩
    ·exact hU.dis g h (h9 ▸ e)
    ·rw [h9] at e;injection e with e
     have:=(hU.own.lt g h).2
     have:=hba.size
     omega⟩
   have hbr5:Below w2.heap.size w2 w5:=hT.below hbra hbra.size hbb2 (fun g h=>(hB.own.lt g h).1)
   have hu5:=hU5.own
   rw [hul] at hu5
   clear hT hN hba hbra hb' ho' hne' hB hU
   go_wp2_with (at_builtin;refine app_int rfl (.tmp 62) (.tmp 69) rfl w2.heap.size _ _ _ rfl (hu5.alloc _) w5.heap.size ((n + k:Nat):Int) rfl (heap_alloc_at _ _ _ rfl) (by omega) (by have:=hbr5.size;rw [World.size_alloc];omega) ?_;intro u' w6 hown6 hgrow6 hat6)
   have hown7:w6.ownsRow w2.heap.size 3 1 u' (K.idx n (l.take (k + 1))).length (intCells (K.idx n (l.take (k + 1)))):=by
    rw [HI.out,List.length_append,hul,Int.natCast_add];exact hown6
   obtain ⟨hB6,hU6⟩:=bld_append hB5 hU5 hgrow6 hown7 hat6
   have hbr6:Below w2.heap.size w2 w6:=(hbr5.alloc hbr5.size _).grown hgrow6 (by have:=hbr5.size;rw [World.size_alloc];omega) (fun g h=>(hU5.own.lt g h).1)
   clear hgrow6 hat6 hown6 hown7 hB5 hU5 hu5
   go_roundw
   case rel=>exact ⟨k + 1,vv',by go_num,by omega,by rw [HS.out],by rw [HV.out];exact hB6,hU6,hbr6⟩
   case measure=>simp [intOf];omega
  ·have hkm:k=m:=by omega
   subst hkm
   have etl:l.take k=l:=List.take_of_length_le (by rw [←hl.1];exact Nat.le_refl _)
   rw [etl] at hB hU hsk
   have HSK:=Lib.hid hsk
   clear hsk
   by_cases hce:sk≤1125899906842624
   rotate_left
   ·have HX:=Lib.hid (show K.build v l=⟨[],-1,[],3⟩ by rw [HB.out,if_pos (by rw [←HSK.out];omega)])
    have q:decide (1125899906842624 < sk)=true:=by simpa using hce
    have hO9:=blk_below hbr hO2
    have o0:wr.cell? ⟨w.heap.size + 1,0,none⟩=some (.slice none 0 0):=blk_cell hO9 0 _ rfl
    have of:wr.frozen? ⟨w.heap.size + 1,0,none⟩=false:=by simp [World.frozen?,hO9]
    go_wp2_with fail
    refine bodyPost_ret_by (v:=.tuple #[.agg #[.slice none 0 0],.int .i64 (-1),.slice none 0 0,.int .i64 3]) ?_ rfl ?_
    ·have z:(wr.setCell ⟨w.heap.size + 1,0,none⟩ (.slice none 0 0)).cell? ⟨w.heap.size + 1,0,none⟩=some (.slice none 0 0):=blk_cell (blk_set hO9 0 _) 0 _ rfl
     rw [results_cell_tmp3 rfl]
     simp [go_sem,z]
    ·exact ⟨built_no HX.out _,hbw.setCell (by simp) _⟩
   have hnv:=hv.1
   have hk0:0 < k:=by
    cases k with
    | zero=>simp at e0
    | succ k=>omega
   have HX:=Lib.hid (show K.build v l=⟨(K.levels l.length (v ++ l.map K.leafIt) (K.idx n l)).1,(K.levels l.length (v ++ l.map K.leafIt) (K.idx n l)).2,K.idx n l,0⟩ by rw [HB.out,if_neg (by rw [←HSK.out];omega),hnv])
   have q:decide (1125899906842624 < sk)=false:=by simpa using hce
   have hOK0:K.Ok (v ++ l.map K.leafIt) (K.idx n l) 1125899906842624 70368744177664:=by
    have h8:=K.leaves_sum v l
    have h7:=K.blinds_bound HRI.out
    rw [hnv]
    exact ⟨K.leaves_fine HRI.out,by rw [h8.1,←HSK.out];omega,by rw [h8.2];have:=hl.1;omega⟩
   have HOK:=Lib.hid hOK0
   have HT0:=Lib.hid (show (v ++ l.map K.leafIt).length + (K.idx n l).length=n + 2 * k by rw [List.length_append,List.length_map,K.idx_len,←hl.1,←hnv];omega)
   have HKL:=Lib.hid (show k=l.length from hl.1)
   clear hce HB HCE hOK0 hnv
   have hlv:(K.idx n l).length=k:=by rw [K.idx_len];exact hl.1.symm
   obtain ⟨Au,cu,hue,hru,h9⟩:=own_form hU.own
   rw [hlv] at hue hru
   have hIu:Ints wr Au k (K.idx n l):=⟨hlv.symm,hru⟩
   have HLV:=Lib.hid hlv
   rw [hue] at hU ⊢
   clear h9 hru hue
   go_wp2_with fail
   refine (clone_row Au k cu (K.idx n l) _ hIu (by omega)).mono ?_
   rintro e w5 ⟨⟨q0,rfl,hq0⟩,b5⟩
   have hq1:w5.ownsRow wr.heap.size 3 1 q0 (K.idx n l).length (intCells (K.idx n l)):=by rw [HLV.out];exact hq0
   have hQ5:=Apart.fresh hB hq1 hbr.size
   have hB5:=hB.below b5
   have hU5:=hU.below b5
   have hbr5:=hbr.trans (b5.mono hbr.size)
   clear hq0 hq1 hIu hB hU hbr b5 hlv hbw
   go_wp2_with fail
   go_loopw [12] (fun vq wo=>∃ (V:List It) (lv:List Int) (vo:Value) (f:Nat),Bld w2.heap.size bb wo vo V∧Apart w2.heap.size bb wo vo (.slice Au k cu) (K.idx n l)∧Apart w2.heap.size bb wo vo vq lv∧Hid (K.levels l.length (v ++ l.map K.leafIt) (K.idx n l)=K.levels f V lv)∧Hid (lv.length≤f)∧Hid (K.Ok V lv 1125899906842624 70368744177664)∧Hid (V.length + lv.length=n + 2 * k)∧0 < lv.length∧lv.length≤64∧Below w2.heap.size w2 wo) (fun vq _=>vlen vq)
   case atStart=>exact ⟨_,K.idx n l,vv,l.length,hB5,hU5,hQ5,Lib.hid rfl,Lib.hid (by rw [HLV.out,HKL.out];exact Nat.le_refl _),HOK,HT0,by rw [HLV.out];exact hk0,by rw [HLV.out];exact hm,hbr5⟩
   case round =>
    obtain ⟨V,lv,vo,f,hBo,hUo,hQo,hLe,hfu,hOk,hTot,hl0,hl64,hbo⟩:=hrel
    obtain ⟨Aq,cq,hqe⟩:=own_len hQo.own
    subst hqe
    by_cases hlt:1 < lv.length
    ·have hdt:decide ((1:Int) < (lv.length:Int))=true:=by simp;omega
     go_wp2_with fail
     go_loopw [13,14] (fun vx vi wi=>∃ (i t:Nat) (V':List It) (vi':Value) (nl:List Int),vi=.int .i64 i∧i≤lv.length∧Hid (i=2 * t)∧Hid (K.pairUp V lv=((K.pairUp V' (lv.drop (2 * t))).1,nl ++ (K.pairUp V' (lv.drop (2 * t))).2))∧Hid (K.Ok V' (lv.drop (2 * t)) 1125899906842624 70368744177664)∧Hid (V'.length=V.length + t)∧Hid (nl.length=t)∧St w2.heap.size bb wi vi' V' (.slice Au k cu) (K.idx n l) (.slice Aq lv.length cq) lv vx nl∧Below w2.heap.size w2 wi) (fun _ vi _=>lv.length - (intOf vi).toNat)
     case atStart=>exact ⟨0,0,V,vo,[],rfl,by omega,Lib.hid rfl,Lib.hid (by simp),Lib.hid (by simpa using hOk.out),Lib.hid rfl,Lib.hid rfl,St.start hBo hUo hQo,hbo⟩
     case round =>
      obtain ⟨i,t,V',vi',nl,rfl,hi,hit,hpr,hok,hvl,hnl,hS,hbi⟩:=hrel
      by_cases hlt2:i + 1 < lv.length
      ·obtain ⟨adq,a,rfl,ha,ca⟩:=Ints.at_ (own_ints_at hS.Q.own) (k:=i) (by omega)
       obtain ⟨adq',b,hadq,hb,cb⟩:=Ints.at_ (own_ints_at hS.Q.own) (k:=i + 1) hlt2
       injection hadq with hadq;subst hadq
       rw [add_pos] at cb
       have Hab:=Lib.hid (show K.Ok V' (a :: b :: lv.drop (2 * (t + 1))) 1125899906842624 70368744177664 by
        have:=hok.out
        rwa [K.drop_two (by rw [←hit.out];exact ha) (by rw [←hit.out];exact hb)] at this)
       have Hpn:=Lib.hid (K.pair_next hpr.out (by rw [←hit.out];exact ha) (by rw [←hit.out];exact hb))
       obtain ⟨hA,hB',hva,hba,hnx⟩:=Hab.out.two
       obtain ⟨ja,rfl⟩:∃ j:Nat,a=j:=⟨a.toNat,by omega⟩
       obtain ⟨jb,rfl⟩:∃ j:Nat,b=j:=⟨b.toNat,by omega⟩
       obtain ⟨Av',cv',hve,hIt⟩:=own_items hS.B.own rfl
       subst hve
       obtain ⟨adv,xa,rfl,hxa,a0,a1,a2,a3⟩:=Items.at_ hIt (k:=ja) (by omega)
       obtain ⟨adv',xb,hadv,hxb,b0,b1,b2,b3⟩:=Items.at_ hIt (k:=jb) (by omega)
       injection hadv with hadv;subst hadv
       have gq1:adq.block ≠ bb:=fun e=>hS.Q.ne (congrArg some e)
       have gq2:adv.block ≠ adq.block:=fun e=>hS.Q.dis adq.block rfl (congrArg some e)
       have gv1:adv.block ≠ bb:=fun e=>hS.B.ne (congrArg some e)
       have gq3:some adq.block ≠ u13.ownBlock:=fun e=>hS.nq adq.block rfl e.symm
       have vb:=blk_cell hS.B.blk 0 _ rfl
       have i0:(0:Int)≤(i:Int):=by omega
       have i1:(i:Int) < (lv.length:Int):=by omega
       have i2:(0:Int)≤(i:Int) + 1:=by omega
       have i3:(i:Int) + 1 < (lv.length:Int):=by omega
       have i4:i < lv.length:=by omega
       have j0:(0:Int)≤(ja:Int):=by omega
       have j1:(ja:Int) < (V'.length:Int):=by omega
       have j2:ja < V'.length:=by omega
       have j3:(0:Int)≤(jb:Int):=by omega
       have j4:(jb:Int) < (V'.length:Int):=by omega
       have j5:jb < V'.length:=by omega
       have wi:IntKind.i64.wrap ((i:Int) + 1)=(i:Int) + 1:=IntWalk.i64_in _ (by omega)
       have HVA:=Lib.hid (show K.get V' (ja:Int)=xa from K.get_at hxa)
       have HVB:=Lib.hid (show K.get V' (jb:Int)=xb from K.get_at hxb)
       rw [HVA.out,HVB.out] at hva hba
       have HA:=Lib.hid hA
       have HB':=Lib.hid hB'
       have wv:IntKind.i64.wrap (xa.val + xb.val)=xa.val + xb.val:=IntWalk.i64_in _ (by omega)
       have wb:IntKind.i64.wrap (xa.bl + xb.bl)=xa.bl + xb.bl:=IntWalk.i64_in _ (by omega)
       have HSI:=Lib.hid (show K.sumIt V' (ja:Int) (jb:Int)=⟨xa.val + xb.val,xa.bl + xb.bl,(ja:Int),(jb:Int)⟩ by unfold K.sumIt;rw [HVA.out,HVB.out])
       have hV9:V'.length≤10000:=by have:=hvl.out;have:=hTot.out;have:=hit.out;omega
       have hnl9:nl.length≤100:=by have:=hnl.out;have:=hit.out;omega
       have le1:nl.length + 1≤maxLen:=by simp only [maxLen];omega
       have le2:(nl.length + 1) * 8≤140737488355328:=by omega
       obtain ⟨ii,hi3,hz0,hz1,hz2⟩:=info_parts Try.info3
       have hbs:w2.heap.size≤wr.heap.size:=hbi.size
       have hblt:=lt_of_block hS.B.blk
       have hvlt:adv.block < wr.heap.size:=(hS.B.own.lt adv.block rfl).2
       have hult:∀ g,u13.ownBlock=some g→g < wr.heap.size:=fun g e=>(hS.N.own.lt g e).2
       have SS:∀ w',Below wr.heap.size wr w'→(Below wr.heap.size wr w'∧w'.cell? ⟨bb,0,none⟩=some (.slice (some adv) V'.length cv')∧w'.cell? (adq.add i)=some (.int .i64 ja)∧w'.cell? ⟨adq.block,adq.off + (i + 1),none⟩=some (.int .i64 jb) ∧
         w'.cell? (adv.add (ja * 4))=some (.int .i64 xa.val)∧w'.cell? ⟨(adv.add (ja * 4)).block,(adv.add (ja * 4)).off + 1,none⟩=some (.int .i64 xa.bl)∧w'.cell? ⟨(adv.add (ja * 4)).block,(adv.add (ja * 4)).off + 2,none⟩=some (.int .i64 xa.lt)∧w'.cell? ⟨(adv.add (ja * 4)).block,(adv.add (ja * 4)).off + 3,none⟩=some (.int .i64 xa.rt) ∧
         w'.cell? (adv.add (jb * 4))=some (.int .i64 xb.val)∧w'.cell? ⟨(adv.add (jb * 4)).block,(adv.add (jb * 4)).off + 1,none⟩=some (.int .i64 xb.bl)∧w'.cell? ⟨(adv.add (jb * 4)).block,(adv.add (jb * 4)).off + 2,none⟩=some (.int .i64 xb.lt)∧w'.cell? ⟨(adv.add (jb * 4)).block,(adv.add (jb * 4)).off + 3,none⟩=some (.int .i64 xb.rt)):=fun w' h =>
        ⟨h,(h.cell (cell_lt vb)).trans vb,(h.cell (cell_lt ca)).trans ca,(h.cell (cell_lt cb)).trans cb,(h.cell (cell_lt a0)).trans a0,(h.cell (cell_lt a1)).trans a1,(h.cell (cell_lt a2)).trans a2,(h.cell (cell_lt a3)).trans a3,(h.cell (cell_lt b0)).trans b0,(h.cell (cell_lt b1)).trans b1,(h.cell (cell_lt b2)).trans b2,(h.cell (cell_lt b3)).trans b3⟩
       clear hA hB' hxa hxb
       go_wp2_with fail
       clear vb a0 a1 a2 a3 b0 b1 b2 b3
       go_region_held3 (fun w'=>Below wr.heap.size wr w'∧w'.cell? ⟨bb,0,none⟩=some (.slice (some adv) V'.length cv')∧w'.cell? (adq.add i)=some (.int .i64 ja)∧w'.cell? ⟨adq.block,adq.off + (i + 1),none⟩=some (.int .i64 jb) ∧
         w'.cell? (adv.add (ja * 4))=some (.int .i64 xa.val)∧w'.cell? ⟨(adv.add (ja * 4)).block,(adv.add (ja * 4)).off + 1,none⟩=some (.int .i64 xa.bl)∧w'.cell? ⟨(adv.add (ja * 4)).block,(adv.add (ja * 4)).off + 2,none⟩=some (.int .i64 xa.lt)∧w'.cell? ⟨(adv.add (ja * 4)).block,(adv.add (ja * 4)).off + 3,none⟩=some (.int .i64 xa.rt) ∧
         w'.cell? (adv.add (jb * 4))=some (.int .i64 xb.val)∧w'.cell? ⟨(adv.add (jb * 4)).block,(adv.add (jb * 4)).off + 1,none⟩=some (.int .i64 xb.bl)∧w'.cell? ⟨(adv.add (jb * 4)).block,(adv.add (jb * 4)).off + 2,none⟩=some (.int .i64 xb.lt)∧w'.cell? ⟨(adv.add (jb * 4)).block,(adv.add (jb * 4)).off + 3,none⟩=some (.int .i64 xb.rt))
        (first | assumption | exact SS _ (Below.refl _ _).drew | exact SS _ ((Below.refl _ _).alloc (Nat.le_refl _) _).drew | exact SS _ (((Below.refl _ _).alloc (Nat.le_refl _) _).alloc (by simp) _).drew)
        (first | fail)
       ·obtain ⟨w6,hw6⟩:∃ w6,w6=((wr.alloc (.cells #[.int .i64 xa.val,.int .i64 xa.bl,.int .i64 xa.lt,.int .i64 xa.rt] 167)).alloc (.cells #[.int .i64 xb.val,.int .i64 xb.bl,.int .i64 xb.lt,.int .i64 xb.rt] 167)).drew:=⟨_,rfl⟩
        have hb6:Below wr.heap.size wr w6:=by rw [hw6];exact (((Below.refl _ _).alloc (Nat.le_refl _) _).alloc (by simp) _).drew
        have hf0:w6.heap[wr.heap.size]? = some (.cells #[.int .i64 xa.val,.int .i64 xa.bl,.int .i64 xa.lt,.int .i64 xa.rt] 167 (0,0)):=by rw [hw6];exact blk_alloc (heap_alloc_new wr _) _
        have hf1:w6.heap[wr.heap.size + 1]? = some (.cells #[.int .i64 xb.val,.int .i64 xb.bl,.int .i64 xb.lt,.int .i64 xb.rt] 167 (0,0)):=by rw [hw6];exact heap_alloc_at _ _ _ (by rw [World.size_alloc])
        have x0:w6.cell? ⟨wr.heap.size,0,none⟩=some (.int .i64 xa.val):=blk_cell hf0 0 _ rfl
        have x1:w6.cell? ⟨wr.heap.size,1,none⟩=some (.int .i64 xa.bl):=blk_cell hf0 1 _ rfl
        have y0:w6.cell? ⟨wr.heap.size + 1,0,none⟩=some (.int .i64 xb.val):=blk_cell hf1 0 _ rfl
        have y1:w6.cell? ⟨wr.heap.size + 1,1,none⟩=some (.int .i64 xb.bl):=blk_cell hf1 1 _ rfl
        have hs6:w6.heap.size=wr.heap.size + 1 + 1:=by rw [hw6];show ((wr.alloc _).alloc _).heap.size=_;rw [World.size_alloc,World.size_alloc]
        rw [←hw6]
        clear hw6 hf0 hf1
        have hS6:St w2.heap.size bb w6.drew (.slice (some adv) V'.length cv') V' (.slice Au k cu) (K.idx n l) (.slice (some adq) lv.length cq) lv u13 nl:=hS.below hb6.drew
        have hc6:=(hb6.cell (cell_lt ca)).trans ca
        have hd6:=(hb6.cell (cell_lt cb)).trans cb
        have n1:wr.heap.size ≠ bb:=by omega
        have n2:some wr.heap.size ≠ some adv.block:=fun e=>by injection e with e;omega
        have n3:some wr.heap.size ≠ u13.ownBlock:=fun e=>by have:=hult _ e.symm;omega
        have m1:(wr.heap.size + 1) ≠ bb:=by omega
        have m2:some (wr.heap.size + 1) ≠ some adv.block:=fun e=>by injection e with e;omega
        have m3:some (wr.heap.size + 1) ≠ u13.ownBlock:=fun e=>by have:=hult _ e.symm;omega
        have hbd6:w2.heap.size≤w6.drew.heap.size:=by show _≤w6.heap.size;omega
        have SS2:∀ w',Same3 w6.drew w' bb (some adv.block) u13.ownBlock→(Same3 w6.drew w' bb (some adv.block) u13.ownBlock∧w'.cell? ⟨wr.heap.size,0,none⟩=some (.int .i64 xa.val)∧w'.cell? ⟨wr.heap.size,1,none⟩=some (.int .i64 xa.bl)∧w'.cell? ⟨wr.heap.size + 1,0,none⟩=some (.int .i64 xb.val)∧w'.cell? ⟨wr.heap.size + 1,1,none⟩=some (.int .i64 xb.bl) ∧
          w'.cell? (adq.add i)=some (.int .i64 ja)∧w'.cell? ⟨adq.block,adq.off + (i + 1),none⟩=some (.int .i64 jb)):=fun w' h =>
         ⟨h,h.cell x0 n1 n2 n3,h.cell x1 n1 n2 n3,h.cell y0 m1 m2 m3,h.cell y1 m1 m2 m3,h.cell hc6 (by rw [add_block];exact gq1) (by rw [add_block];exact fun e=>gq2 (Option.some.inj e).symm) (by rw [add_block];exact gq3),h.cell hd6 gq1 (fun e=>gq2 (Option.some.inj e).symm) gq3⟩
        go_wp2_with fail
        clear x0 x1 y0 y1 hc6 hd6
        go_region_held3 (fun w'=>Same3 w6.drew w' bb (some adv.block) u13.ownBlock∧w'.cell? ⟨wr.heap.size,0,none⟩=some (.int .i64 xa.val)∧w'.cell? ⟨wr.heap.size,1,none⟩=some (.int .i64 xa.bl)∧w'.cell? ⟨wr.heap.size + 1,0,none⟩=some (.int .i64 xb.val)∧w'.cell? ⟨wr.heap.size + 1,1,none⟩=some (.int .i64 xb.bl) ∧
          w'.cell? (adq.add i)=some (.int .i64 ja)∧w'.cell? ⟨adq.block,adq.off + (i + 1),none⟩=some (.int .i64 jb))
         (first | assumption | exact SS2 _ (Same3.refl _ _ _ _) | exact SS2 _ hm7 | exact SS2 _ (hm7.below ((Below.refl _ _).alloc (Nat.le_refl _) _)) | exact SS2 _ hm8)
         (first | (go_at_call 93;refine (add_any bb w2.heap.size (.slice (some adv) V'.length cv') V'.length V' ⟨xa.val + xb.val,xa.bl + xb.bl,(ja:Int),(jb:Int)⟩ w6.drew hS6.B.blk hS6.B.own hS6.B.ne hbd6 hV9).mono ?_;rintro e w7 ⟨rfl,v7,hb7,ho7,hT7,hN7,hne7⟩;have hm7:=(Same3.refl w6.drew bb (some adv.block) u13.ownBlock).two hT7;have hS7:=hS6.added (V':=V' ++ [⟨xa.val + xb.val,xa.bl + xb.bl,(ja:Int),(jb:Int)⟩]) hb7 (by rw [List.length_append];exact ho7) hT7 hN7 hne7;have le3:∀ o:Obj,w2.heap.size≤(w7.alloc o).heap.size:=fun o=>by rw [World.size_alloc];have:=hm7.size;omega) | (refine step_append_lies _ rfl (.tmp 106) (.tmp 128) 41 rfl w2.heap.size 3 ii (.int .i64 0) 1 8 Try.underlying41 hi3 hz0 hz1 hz2 rfl Nat.one_pos u13 nl.length (intCells nl) rfl (hS7.N.own.alloc _) ⟨w7.heap.size,0,none⟩ 1 1 [.int .i64 (V'.length:Int)] rfl rfl (new_int w7 _) (one_int _) Nat.one_pos le1 le2 (le3 _) _ rfl ?_;intro g8 cap8 w8 hown8 hgrow8 hlies8 hlt8;have hm8:=(hm7.below ((Below.refl _ _).alloc (Nat.le_refl _) (.cells #[.int .i64 (V'.length:Int)] 3))).grow hgrow8) | fail)
        have hown9:w8.ownsRow w2.heap.size 3 1 (.slice (some ⟨g8,0,none⟩) (nl.length + 1) cap8) (nl ++ [(V'.length:Int)]).length (intCells (nl ++ [(V'.length:Int)])):=by rw [List.length_append,intCells_app];exact hown8
        have hS8:=hS7.app hgrow8 hown9 (by rcases hlies8 with h | h;exact .inl h.symm;exact .inr (by rw [h];rfl))
        have hbi8:Below w2.heap.size w2 w8:=hm8.low (B:=w2.heap.size) (hbi.trans (hb6.mono hbs)).drew hbd6 (by omega) (fun g e=>by injection e with e;have:=(hS.B.own.lt adv.block rfl).1;omega) (fun g e=>(hS.N.own.lt g e).1)
        clear hown9 hgrow8 hlies8 hm8 hm7 hT7 hN7 hb7 ho7 SS2 SS
        go_wp2_with fail
        go_roundw
        case rel=>exact ⟨i + 2,t + 1,V' ++ [⟨xa.val + xb.val,xa.bl + xb.bl,(ja:Int),(jb:Int)⟩],v7,nl ++ [(V'.length:Int)],by go_num,by omega,Lib.hid (by have:=hit.out;omega),Lib.hid (by have:=Hpn.out;rwa [HSI.out] at this),Lib.hid (hnx _),Lib.hid (by rw [List.length_append,hvl.out];simp;omega),Lib.hid (by rw [List.length_append,hnl.out];rfl),hS8,hbi8⟩
        case measure=>simp [intOf];omega
       ·obtain ⟨w6,hw6⟩:∃ w6,w6=((wr.alloc (.cells #[.int .i64 xb.val,.int .i64 xb.bl,.int .i64 xb.lt,.int .i64 xb.rt] 167)).alloc (.cells #[.int .i64 xa.val,.int .i64 xa.bl,.int .i64 xa.lt,.int .i64 xa.rt] 167)).drew:=⟨_,rfl⟩
        have hb6:Below wr.heap.size wr w6:=by rw [hw6];exact (((Below.refl _ _).alloc (Nat.le_refl _) _).alloc (by simp) _).drew
        have hf0:w6.heap[wr.heap.size]? = some (.cells #[.int .i64 xb.val,.int .i64 xb.bl,.int .i64 xb.lt,.int .i64 xb.rt] 167 (0,0)):=by rw [hw6];exact blk_alloc (heap_alloc_new wr _) _
        have hf1:w6.heap[wr.heap.size + 1]? = some (.cells #[.int .i64 xa.val,.int .i64 xa.bl,.int .i64 xa.lt,.int .i64 xa.rt] 167 (0,0)):=by rw [hw6];exact heap_alloc_at _ _ _ (by rw [World.size_alloc])
        have x0:w6.cell? ⟨wr.heap.size + 1,0,none⟩=some (.int .i64 xa.val):=blk_cell hf1 0 _ rfl
        have x1:w6.cell? ⟨wr.heap.size + 1,1,none⟩=some (.int .i64 xa.bl):=blk_cell hf1 1 _ rfl
        have y0:w6.cell? ⟨wr.heap.size,0,none⟩=some (.int .i64 xb.val):=blk_cell hf0 0 _ rfl
        have y1:w6.cell? ⟨wr.heap.size,1,none⟩=some (.int .i64 xb.bl):=blk_cell hf0 1 _ rfl
        have hs6:w6.heap.size=wr.heap.size + 1 + 1:=by rw [hw6];show ((wr.alloc _).alloc _).heap.size=_;rw [World.size_alloc,World.size_alloc]
        rw [←hw6]
        clear hw6 hf0 hf1
        have hS6:St w2.heap.size bb w6.drew (.slice (some adv) V'.length cv') V' (.slice Au k cu) (K.idx n l) (.slice (some adq) lv.length cq) lv u13 nl:=hS.below hb6.drew
        have hc6:=(hb6.cell (cell_lt ca)).trans ca
        have hd6:=(hb6.cell (cell_lt cb)).trans cb
        have n1:(wr.heap.size + 1) ≠ bb:=by omega
        have n2:some (wr.heap.size + 1) ≠ some adv.block:=fun e=>by injection e with e;omega
        have n3:some (wr.heap.size + 1) ≠ u13.ownBlock:=fun e=>by have:=hult _ e.symm;omega
        have m1:wr.heap.size ≠ bb:=by omega
        have m2:some wr.heap.size ≠ some adv.block:=fun e=>by injection e with e;omega
        have m3:some wr.heap.size ≠ u13.ownBlock:=fun e=>by have:=hult _ e.symm;omega
        have hbd6:w2.heap.size≤w6.drew.heap.size:=by show _≤w6.heap.size;omega
        have SS2:∀ w',Same3 w6.drew w' bb (some adv.block) u13.ownBlock→(Same3 w6.drew w' bb (some adv.block) u13.ownBlock∧w'.cell? ⟨wr.heap.size + 1,0,none⟩=some (.int .i64 xa.val)∧w'.cell? ⟨wr.heap.size + 1,1,none⟩=some (.int .i64 xa.bl)∧w'.cell? ⟨wr.heap.size,0,none⟩=some (.int .i64 xb.val)∧w'.cell? ⟨wr.heap.size,1,none⟩=some (.int .i64 xb.bl) ∧
          w'.cell? (adq.add i)=some (.int .i64 ja)∧w'.cell? ⟨adq.block,adq.off + (i + 1),none⟩=some (.int .i64 jb)):=fun w' h =>
         ⟨h,h.cell x0 n1 n2 n3,h.cell x1 n1 n2 n3,h.cell y0 m1 m2 m3,h.cell y1 m1 m2 m3,h.cell hc6 (by rw [add_block];exact gq1) (by rw [add_block];exact fun e=>gq2 (Option.some.inj e).symm) (by rw [add_block];exact gq3),h.cell hd6 gq1 (fun e=>gq2 (Option.some.inj e).symm) gq3⟩
        go_wp2_with fail
        clear x0 x1 y0 y1 hc6 hd6
        go_region_held3 (fun w'=>Same3 w6.drew w' bb (some adv.block) u13.ownBlock∧w'.cell? ⟨wr.heap.size + 1,0,none⟩=some (.int .i64 xa.val)∧w'.cell? ⟨wr.heap.size + 1,1,none⟩=some (.int .i64 xa.bl)∧w'.cell? ⟨wr.heap.size,0,none⟩=some (.int .i64 xb.val)∧w'.cell? ⟨wr.heap.size,1,none⟩=some (.int .i64 xb.bl) ∧
          w'.cell? (adq.add i)=some (.int .i64 ja)∧w'.cell? ⟨adq.block,adq.off + (i + 1),none⟩=some (.int .i64 jb))
         (first | assumption | exact SS2 _ (Same3.refl _ _ _ _) | exact SS2 _ hm7 | exact SS2 _ (hm7.below ((Below.refl _ _).alloc (Nat.le_refl _) _)) | exact SS2 _ hm8)
         (first | (go_at_call 93;refine (add_any bb w2.heap.size (.slice (some adv) V'.length cv') V'.length V' ⟨xa.val + xb.val,xa.bl + xb.bl,(ja:Int),(jb:Int)⟩ w6.drew hS6.B.blk hS6.B.own hS6.B.ne hbd6 hV9).mono ?_;rintro e w7 ⟨rfl,v7,hb7,ho7,hT7,hN7,hne7⟩;have hm7:=(Same3.refl w6.drew bb (some adv.block) u13.ownBlock).two hT7;have hS7:=hS6.added (V':=V' ++ [⟨xa.val + xb.val,xa.bl + xb.bl,(ja:Int),(jb:Int)⟩]) hb7 (by rw [List.length_append];exact ho7) hT7 hN7 hne7;have le3:∀ o:Obj,w2.heap.size≤(w7.alloc o).heap.size:=fun o=>by rw [World.size_alloc];have:=hm7.size;omega) | (refine step_append_lies _ rfl (.tmp 106) (.tmp 128) 41 rfl w2.heap.size 3 ii (.int .i64 0) 1 8 Try.underlying41 hi3 hz0 hz1 hz2 rfl Nat.one_pos u13 nl.length (intCells nl) rfl (hS7.N.own.alloc _) ⟨w7.heap.size,0,none⟩ 1 1 [.int .i64 (V'.length:Int)] rfl rfl (new_int w7 _) (one_int _) Nat.one_pos le1 le2 (le3 _) _ rfl ?_;intro g8 cap8 w8 hown8 hgrow8 hlies8 hlt8;have hm8:=(hm7.below ((Below.refl _ _).alloc (Nat.le_refl _) (.cells #[.int .i64 (V'.length:Int)] 3))).grow hgrow8) | fail)
        have hown9:w8.ownsRow w2.heap.size 3 1 (.slice (some ⟨g8,0,none⟩) (nl.length + 1) cap8) (nl ++ [(V'.length:Int)]).length (intCells (nl ++ [(V'.length:Int)])):=by rw [List.length_append,intCells_app];exact hown8
        have hS8:=hS7.app hgrow8 hown9 (by rcases hlies8 with h | h;exact .inl h.symm;exact .inr (by rw [h];rfl))
        have hbi8:Below w2.heap.size w2 w8:=hm8.low (B:=w2.heap.size) (hbi.trans (hb6.mono hbs)).drew hbd6 (by omega) (fun g e=>by injection e with e;have:=(hS.B.own.lt adv.block rfl).1;omega) (fun g e=>(hS.N.own.lt g e).1)
        clear hown9 hgrow8 hlies8 hm8 hm7 hT7 hN7 hb7 ho7 SS2 SS
        go_wp2_with fail
        go_roundw
        case rel=>exact ⟨i + 2,t + 1,V' ++ [⟨xa.val + xb.val,xa.bl + xb.bl,(ja:Int),(jb:Int)⟩],v7,nl ++ [(V'.length:Int)],by go_num,by omega,Lib.hid (by have:=hit.out;omega),Lib.hid (by have:=Hpn.out;rwa [HSI.out] at this),Lib.hid (hnx _),Lib.hid (by rw [List.length_append,hvl.out];simp;omega),Lib.hid (by rw [List.length_append,hnl.out];rfl),hS8,hbi8⟩
        case measure=>simp [intOf];omega
      ·have hl0':=hl0
       by_cases hev:i=lv.length
       ·have m1:((lv.length:Int) % 2 == 1)=false:=K.even_no (t:=t) (by rw [←hev];exact hit.out)
        obtain ⟨g1,⟨g,g2,g3⟩,g4,g5,g6⟩:=K.level_up (K.pair_even hpr.out (by have:=hit.out;omega)) hOk.out hlt hLe.out hfu.out hTot.out
        have HG:=And.intro (Lib.hid g2) (And.intro (Lib.hid g3) (And.intro (Lib.hid g1) (Lib.hid g4)))
        obtain ⟨An,cn,hne⟩:=own_len hS.N.own
        subst hne
        clear g1 g2 g3 g4 hev hl0'
        go_wp2_with fail
        go_roundw
        case rel=>exact ⟨V',nl,vi',g,hS.B,hS.U,hS.N,HG.1,HG.2.1,HG.2.2.1,HG.2.2.2,g6,by omega,hbi⟩
        case measure=>exact g5
       ·have HL:=Lib.hid (show lv.length=i + 1 by omega)
        have m1:((lv.length:Int) % 2 == 1)=true:=K.odd_yes (t:=t) (by rw [HL.out];have:=hit.out;omega)
        obtain ⟨adq,z,rfl,hz,cz⟩:=Ints.at_ (own_ints_at hS.Q.own) (k:=i) (by omega)
        obtain ⟨g1,⟨g,g2,g3⟩,g4,g5,g6⟩:=K.level_up (K.pair_odd (z:=z) hpr.out (by rw [HL.out];have:=hit.out;omega) (by rw [←hit.out];exact hz)) hOk.out hlt hLe.out hfu.out hTot.out
        have HG:=And.intro (Lib.hid g2) (And.intro (Lib.hid g3) (And.intro (Lib.hid g1) (Lib.hid g4)))
        have wq:IntKind.i64.wrap ((lv.length:Int) - 1)=(i:Int):=by rw [IntWalk.i64_in _ (by omega)];omega
        have i0:(0:Int)≤(i:Int):=by omega
        have i1:(i:Int) < (lv.length:Int):=by omega
        have i4:i < lv.length:=by omega
        have hnl9:nl.length≤100:=by have:=hnl.out;have:=hit.out;omega
        have hbs:w2.heap.size≤wr.heap.size:=hbi.size
        clear g1 g2 g3 g4 hev hl0' hz
        go_wp2_with (at_builtin;refine app_int rfl (.tmp 134) (.tmp 141) rfl w2.heap.size u13 nl.length nl rfl (hS.N.own.alloc _) wr.heap.size z rfl (heap_alloc_at _ _ _ rfl) (by omega) (by rw [World.size_alloc];omega) ?_;intro u' w6 hown6 hgrow6 hat6)
        have hown7:w6.ownsRow w2.heap.size 3 1 u' (nl ++ [z]).length (intCells (nl ++ [z])):=by rw [List.length_append];exact hown6
        have hS6:=hS.app hgrow6 hown7 hat6
        have hbi6:Below w2.heap.size w2 w6:=(hbi.alloc hbs _).grown hgrow6 (by rw [World.size_alloc];omega) (fun g h=>(hS.N.own.lt g h).1)
        obtain ⟨An,cn,hne⟩:=own_len hown7
        subst hne
        clear hown6 hown7 hgrow6 hat6
        go_wp2_with fail
        go_roundw
        case rel=>exact ⟨V',nl ++ [z],vi',g,hS6.B,hS6.U,hS6.N,HG.1,HG.2.1,HG.2.2.1,HG.2.2.2,g6,by omega,hbi6⟩
        case measure=>exact g5
    ·have HL:=Lib.hid (show lv.length=1 by omega)
     obtain ⟨Ao,co,hvo,_⟩:=own_items hBo.own rfl
     subst hvo
     obtain ⟨adq,z,rfl,hz,cz⟩:=Ints.at_ (own_ints_at hQo.own) (k:=0) (by omega)
     have HE:=Lib.hid (show K.levels l.length (v ++ l.map K.leafIt) (K.idx n l)=(V,z) by
      have HL':=HL.out
      rw [hLe.out]
      have:lv=[z]:=by
       rcases lv with _ | ⟨a,_ | ⟨b,r⟩⟩
       ·simp at HL'
       ·simp at hz;subst hz;rfl
       ·simp at HL'
      rw [this,K.levels_end])
     have hO9:=blk_below hbo hO2
     have hOw:=lt_of_block hO2
     have vb:wr.cell? ⟨bb,0,none⟩=some (.slice Ao V.length co):=blk_cell hBo.blk 0 _ rfl
     have cy:wr.cell? adq=some (.int .i64 z):=cz
     have hqb:=(hQo.own.lt adq.block rfl).1
     have o0:wr.cell? ⟨w.heap.size + 1,0,none⟩=some (.slice none 0 0):=blk_cell hO9 0 _ rfl
     have of:wr.frozen? ⟨w.heap.size + 1,0,none⟩=false:=by simp [World.frozen?,hO9]
     have o2:wr.drew.cell? ⟨w.heap.size + 1,0,none⟩=some (.slice none 0 0):=o0
     have of2:wr.drew.frozen? ⟨w.heap.size + 1,0,none⟩=false:=of
     have i0:(0:Int) < (lv.length:Int):=by omega
     have SS3:∀ w',Same3 wr w' (w.heap.size + 1) none none→(Same3 wr w' (w.heap.size + 1) none none∧w'.cell? ⟨bb,0,none⟩=some (.slice Ao V.length co)∧w'.cell? (adq.add 0)=some (.int .i64 z)∧w'.cell? adq=some (.int .i64 z)):=fun w' h =>
      ⟨h,h.cell vb (by show bb ≠ _;omega) (by simp) (by simp),h.cell cz (by rw [add_block];omega) (by simp) (by simp),h.cell cy (by omega) (by simp) (by simp)⟩
     clear hz hl64 hfu
     go_wp2_with fail
     clear vb cz cy
     go_region_held3 (fun w'=>Same3 wr w' (w.heap.size + 1) none none∧w'.cell? ⟨bb,0,none⟩=some (.slice Ao V.length co)∧w'.cell? (adq.add 0)=some (.int .i64 z)∧w'.cell? adq=some (.int .i64 z))
      (first | assumption | exact SS3 _ ((Same3.refl _ _ _ _).below (Below.refl _ _).drew) | exact SS3 _ (((Same3.refl _ _ _ _).below (Below.refl _ _).drew).set 0 _) | exact SS3 _ (((Same3.refl _ _ _ _).set 0 _).below (Below.refl _ _).drew))
      (first | fail)
     go_wp2_with fail
     refine bodyPost_ret_by (v:=.tuple #[.agg #[.slice Ao V.length co],.int .i64 z,.slice Au k cu,.int .i64 0]) ?_ rfl ?_
     ·have y9:(wr.setCell ⟨w.heap.size + 1,0,none⟩ (.slice Ao V.length co)).cell? ⟨w.heap.size + 1,0,none⟩=some (.slice Ao V.length co):=blk_cell (blk_set hO9 0 _) 0 _ rfl
      rw [results_cell_tmp3 rfl]
      simp [go_sem,y9]
     ·have hV9:=ownsRow_setCell_other (own_below hBo.own (Below.refl _ _).drew) (a:=⟨w.heap.size + 1,0,none⟩) (fun e=>by have h9:w2.heap.size≤w.heap.size + 1:=(hBo.own.lt _ e).1;omega) (.slice Ao V.length co)
      have hU9:=ownsRow_setCell_other (own_below hUo.own (Below.refl _ _).drew) (a:=⟨w.heap.size + 1,0,none⟩) (fun e=>by have h9:w2.heap.size≤w.heap.size + 1:=(hUo.own.lt _ e).1;omega) (.slice Ao V.length co)
      have hU8:=own_ints_at hU9
      rw [HLV.out] at hU8
      obtain ⟨A9,c9,e9,hI9⟩:=own_items hV9 rfl
      injection e9 with e1 e2 e3
      subst e1
      refine ⟨⟨Ao,V.length,co,Au,k,cu,by rw [HX.out,HE.out],by rw [HX.out,HE.out];exact hI9,by rw [HX.out];exact hU8⟩,(bel hb2 hbo).drew.setCell (by simp) _⟩
theorem build_any (A:Option Addr) (n c:Nat) (v:List It) (B:Option Addr) (m d:Nat) (l:List Ln) (w:World) (hv:Items w A n v) (hn:n≤100000) (hl:Lines w B m l) (hm:m≤100000) :
  Calls Try.prog 55 #[.agg #[.slice A n c],.slice B m d] w fun e w'=>BuiltAt (K.build v l) e w'∧Below w.heap.size w w':=by
 by_cases h:(!K.sound v || l.isEmpty || l.any fun x=>!K.right x)=true∨(64 < m∨1001 < n + 2 * m)
 ·exact build_no A n c v B m d l w hv hn hl hm h
 ·have h1:K.sound v=true:=by
   cases e:K.sound v
   ·exact absurd (.inl (by rw [e];rfl)) h
   ·rfl
  have h2:(l.any fun x=>!K.right x)=false:=by
   cases e:(l.any fun x=>!K.right x)
   ·rfl
   ·exact absurd (.inl (by rw [e];simp)) h
  have h3:m ≠ 0:=fun e=>h (.inl (by
   have:l=[]:=List.length_eq_zero_iff.1 (by rw [←hl.1];exact e)
   rw [this];simp))
  exact build_yes A n c v B m d l w hv hl h1 h2 h3 (by omega) (by omega)
end Vt
namespace K
section
variable {nd : Int} {l : List Ro} {ss ss' : List S} {r r' : List Q}
theorem pcheck_of (h1:netErr nd l=0) (h2:ss.length≤4) (h3:∀ s ∈ ss,T.check s=0∧s.depot < nd) (h4:∀ q ∈ r,T.right q=true∧q.node < nd) (h5:r.length≤6):pcheck nd l ss r=0:=by
 have a1:ss.any (badS nd)=false:=by
  rw [List.any_eq_false]
  intro s hs
  obtain ⟨b1,b2⟩:=h3 s hs
  simp [badS,b1]
  omega
 have a2:r.any (badQ nd)=false:=by
  rw [List.any_eq_false]
  intro q hq
  obtain ⟨b1,b2⟩:=h4 q hq
  simp [badQ,b1]
  omega
 unfold pcheck
 rw [h1,decide_eq_true h2,a1,a2,if_pos (by decide),if_neg (by omega)]
theorem plan_42 (h:pcheck nd l ss r=0):(plan nd l ss r).2=0∨(plan nd l ss r).2=4:=by
 rcases plan_cases h with ⟨g,-⟩ | ⟨d,-,g⟩
 ·rw [g];exact .inr rfl
 ·rw [g];exact .inl rfl
end
end K
namespace K
def fits33 (nd:Int) (x:Q):Bool:=T.right x && decide (x.node < nd)
def pick33 (r:List Q) (v:List Int) (x:Q):List Q:=v.map (req r) ++ [x]
def blocks33 (nd:Int) (l:List Ro) (ss:List S) (r:List Q) (x:Q) (v:List Int):Bool:=(plan nd l ss (pick33 r v x)).2 == 4
def find33 (nd:Int) (l:List Ro) (ss:List S) (r:List Q) (x:Q) (c:List Int) (many frm:Nat):Option (List Int) :=
 ((A.combos r.length many frm).map (c ++ ·)).find? (blocks33 nd l ss r x)
def small33 (nd:Int) (l:List Ro) (ss:List S) (r:List Q) (x:Q):Nat→Nat→Option (List Int)
 | 0,_=>none
 | k + 1,many=>match find33 nd l ss r x [] many 0 with
  | some v=>some v
  | none=>small33 nd l ss r x k (many + 1)
structure An where
 acc:Bool
 tours:List (Int × Tr)
 blk:List Int
 proof:List (Int × List Int × List Lb)
def An.zero:An:=⟨false,[],[],[]⟩
def ask33 (nd:Int) (l:List Ro) (ss:List S) (r:List Q) (x:Q):Option (List Q) × An × Int :=
 if (plan nd l ss r).2 ≠ 0∨fits33 nd x=false then (none,An.zero,1)
 else if 6≤r.length then (none,An.zero,6)
 else if (plan nd l ss (r ++ [x])).2=0 then (some (r ++ [x]),⟨true,(plan nd l ss (r ++ [x])).1.map fun t=>((t.1:Int),t.2),[],[]⟩,0)
 else match small33 nd l ss r x (r.length + 1) 0 with
  | some v=>(some r,⟨false,[],v,(refute nd l ss (pick33 r v x)).1.map fun b=>((b.1:Int),b.2)⟩,0)
  | none=>(some r,An.zero,0)
section
variable {nd : Int} {l : List Ro} {ss ss' : List S} {r r' : List Q} {x : Q}
theorem plan_same (h:r'.map Q.bare=r.map Q.bare) (g:ss'.map S.bare=ss.map S.bare):plan nd l ss' r'=plan nd l ss r:=by rw [←plan_bare nd l r' ss',h,g,plan_bare]
theorem refute_same (h:r'.map Q.bare=r.map Q.bare) (g:ss'.map S.bare=ss.map S.bare):refute nd l ss' r'=refute nd l ss r:=by rw [←refute_bare nd l r' ss',h,g,refute_bare]
theorem req_at {i:Nat} {q:Q} (h:r[i]? = some q):req r (i:Int)=q:=by unfold req;rw [Int.toNat_natCast,h];rfl
theorem pick_iota:pick33 r (iota r.length) x=r ++ [x]:=by
 unfold pick33
 congr 1
 apply List.ext_getElem?
 intro i
 rw [List.getElem?_map,iota,List.getElem?_map]
 by_cases hi:i < r.length
 ·rw [List.getElem?_range hi,Option.map_some,Option.map_some,req_at (List.getElem?_eq_getElem hi),List.getElem?_eq_getElem hi]
 ·rw [List.getElem?_eq_none (by rw [List.length_range];omega),List.getElem?_eq_none (by omega)]
  rfl
theorem pick_same (h:r'.map Q.bare=r.map Q.bare) {x':Q} (hx:x'.bare=x.bare) (v:List Int):(pick33 r' v x').map Q.bare=(pick33 r v x).map Q.bare:=by
 unfold pick33
 rw [List.map_append,List.map_append,List.map_map,List.map_map,List.map_singleton,List.map_singleton,hx]
 congr 1
 refine List.map_congr_left fun i _=>?_
 show (req r' i).bare=(req r i).bare
 rw [←req_bare,←req_bare,h]
theorem same_len (h:r'.map Q.bare=r.map Q.bare):r'.length=r.length:=by have:=congrArg List.length h;rwa [List.length_map,List.length_map] at this
theorem fits_same {x':Q} (hx:x'.bare=x.bare):fits33 nd x'=fits33 nd x:=by
 have h1:∀ y:Q,fits33 nd y.bare=fits33 nd y:=fun _=>rfl
 rw [←h1 x',hx,h1]
theorem app_same (h:r'.map Q.bare=r.map Q.bare) {x':Q} (hx:x'.bare=x.bare):(r' ++ [x']).map Q.bare=(r ++ [x]).map Q.bare:=by
 rw [List.map_append,List.map_append,h,List.map_singleton,List.map_singleton,hx]
theorem find_same (h:r'.map Q.bare=r.map Q.bare) (g:ss'.map S.bare=ss.map S.bare) {x':Q} (hx:x'.bare=x.bare) (c:List Int) (m f:Nat):find33 nd l ss' r' x' c m f=find33 nd l ss r x c m f:=by
 have:blocks33 nd l ss' r' x'=blocks33 nd l ss r x:=by
  funext v
  unfold blocks33
  rw [plan_same (pick_same h hx v) g]
 unfold find33
 rw [this,same_len h]
theorem small_same (h:r'.map Q.bare=r.map Q.bare) (g:ss'.map S.bare=ss.map S.bare) {x':Q} (hx:x'.bare=x.bare):∀ (k m:Nat),small33 nd l ss' r' x' k m=small33 nd l ss r x k m
 | 0,_=>rfl
 | k + 1,m=>by rw [small33,small33,find_same h g hx,small_same h g hx k (m + 1)]
theorem ask_same (h:r'.map Q.bare=r.map Q.bare) (g:ss'.map S.bare=ss.map S.bare) {x':Q} (hx:x'.bare=x.bare):(ask33 nd l ss' r' x').2=(ask33 nd l ss r x).2∧(ask33 nd l ss' r' x').1.map (List.map Q.bare)=(ask33 nd l ss r x).1.map (List.map Q.bare):=by
 have hp:=plan_same (nd:=nd) (l:=l) h g
 have hq:=plan_same (nd:=nd) (l:=l) (app_same h hx) g
 have hs:=small_same (nd:=nd) (l:=l) h g hx
 have hr:=fun v=>refute_same (nd:=nd) (l:=l) (pick_same h hx v) g
 have hl:=same_len h
 unfold ask33
 rw [hp,hq,fits_same hx,hl,hs]
 split
 ·exact ⟨rfl,rfl⟩
 split
 ·exact ⟨rfl,rfl⟩
 split
 ·exact ⟨rfl,by simp only [Option.map_some];rw [app_same h hx]⟩
 split
 ·exact ⟨by rw [hr],by simp only [Option.map_some];rw [h]⟩
 ·exact ⟨rfl,by simp only [Option.map_some];rw [h]⟩
theorem small33_none:∀ {k m:Nat},small33 nd l ss r x k m=none→∀ n,m≤n→n < m + k→∀ u ∈ A.combos r.length n 0,blocks33 nd l ss r x u=false
 | 0,m,_,n,h1,h2=>by omega
 | k + 1,m,h,n,h1,h2=>fun u hu=>by
  rw [small33] at h
  cases hf:find33 nd l ss r x [] m 0 with
  | some u=>rw [hf] at h;cases h
  | none =>
   rw [hf] at h
   by_cases e:n=m
   ·subst e
    unfold find33 at hf
    have:=List.find?_eq_none.1 hf ([] ++ u) (List.mem_map.2 ⟨u,hu,rfl⟩)
    rw [List.nil_append] at this
    simpa using this
   ·exact small33_none h n (by omega) (by omega) u hu
theorem iota_combo (n:Nat):iota n ∈ A.combos n n 0:=A.mem_combos.2 ⟨by unfold iota;rw [List.length_map,List.length_range],iota_sorted n,fun y hy=>by have:=mem_iota.1 hy;omega⟩
theorem fits_q (h:pcheck nd l ss r=0) (hx:fits33 nd x=true) (hl:r.length + 1≤6):pcheck nd l ss (r ++ [x])=0:=by
 obtain ⟨h1,h2,h3,h4,-⟩:=pcheck_ok h
 refine pcheck_of h1 h2 h3 (fun q hq=>?_) (by rw [List.length_append];exact hl)
 rcases List.mem_append.1 hq with hq | hq
 ·exact h4 q hq
 ·rw [List.mem_singleton.1 hq]
  unfold fits33 at hx
  rw [Bool.and_eq_true,decide_eq_true_iff] at hx
  exact hx
theorem ask_cases:(∃ e,e ≠ 0∧ask33 nd l ss r x=(none,An.zero,e)) ∨
  (((plan nd l ss r).2=0∧fits33 nd x=true∧r.length < 6) ∧
   (((plan nd l ss (r ++ [x])).2=0∧ask33 nd l ss r x=(some (r ++ [x]),⟨true,(plan nd l ss (r ++ [x])).1.map fun t=>((t.1:Int),t.2),[],[]⟩,0)) ∨
    ((plan nd l ss (r ++ [x])).2=4∧∃ v,small33 nd l ss r x (r.length + 1) 0=some v∧ask33 nd l ss r x=(some r,⟨false,[],v,(refute nd l ss (pick33 r v x)).1.map fun b=>((b.1:Int),b.2)⟩,0)))):=by
 by_cases h1:(plan nd l ss r).2 ≠ 0∨fits33 nd x=false
 ·exact .inl ⟨1,by decide,by unfold ask33;rw [if_pos h1]⟩
 by_cases h2:6≤r.length
 ·exact .inl ⟨6,by decide,by unfold ask33;rw [if_neg h1,if_pos h2]⟩
 have h3:(plan nd l ss r).2=0:=by
  by_cases e:(plan nd l ss r).2=0
  ·exact e
  ·exact absurd (.inl e) h1
 have h4:fits33 nd x=true:=by
  cases e:fits33 nd x
  ·exact absurd (.inr e) h1
  ·rfl
 refine .inr ⟨⟨h3,h4,by omega⟩,?_⟩
 have hpc:=fits_q (plan_0 h3).1 h4 (by omega)
 rcases plan_42 hpc with h5 | h5
 ·exact .inl ⟨h5,by unfold ask33;rw [if_neg h1,if_neg h2,if_pos h5]⟩
 ·refine .inr ⟨h5,?_⟩
  cases hs:small33 nd l ss r x (r.length + 1) 0 with
  | none =>
   have:=small33_none hs r.length (Nat.zero_le _) (by omega) _ (iota_combo _)
   unfold blocks33 at this
   rw [pick_iota,h5] at this
   cases this
  | some v=>exact ⟨v,rfl,by unfold ask33;rw [if_neg h1,if_neg h2,if_neg (by omega),hs]⟩
theorem combo_in {n:Nat} {v:List Int} (h:v ∈ A.combos r.length n 0):v.Pairwise (· < ·)∧∀ i ∈ v,0≤i∧i < (r.length:Int):=by
 obtain ⟨-,h1,h2⟩:=A.mem_combos.1 h
 exact ⟨h1,fun i hi=>by have:=h2 i hi;omega⟩
end
end K
end Go.Proofs.Ytippdjmpkafifaa
