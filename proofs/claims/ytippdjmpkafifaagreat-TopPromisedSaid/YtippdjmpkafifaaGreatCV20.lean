import Derived.Test.YtippdjmpkafifaaGreatCV19
import Derived.Test.YtippdjmpkafifaaGreatCV3
namespace Go.Proofs.YtippdjmpkafifaaGreat
open Go.RowKit
namespace Vt
set_option maxHeartbeats 400000 in
theorem build1_any (x:Ln) (w:World):Calls Tryz.prog 157 #[.agg #[.int .i64 x.hh,.int .i64 x.cents,.int .i64 x.bl]] w fun e w'=>e=.returned (.bool (!K.right x))∧Below w.heap.size w w':=by
 go_enter Tryz.func157,Tryz.ntmps157
 go_wp2_with fail
 refine (right_any x _).mono ?_
 rintro e w1 ⟨rfl,hb1⟩
 go_wp2_with fail
 go_ret
 exact ⟨rfl,bel ((Below.refl _ _).alloc (Nat.le_refl _) _) hb1⟩
set_option maxHeartbeats 1000000 in
theorem index_any (A:Option Addr) (n c:Nat) (l:List Ln) (w:World) (hl:Lines w A n l) (hn:n≤1000000000) :
  Calls Tryz.prog 199 #[.slice A n c,.func (.func 157) #[] #[]] w fun e w'=>(∃ i:Int,e=.returned (.int .i64 i)∧(decide (0≤i))=l.any fun q=>!K.right q)∧Below w.heap.size w w':=by
 go_enter Tryz.func199,Tryz.ntmps199
 go_wp2_with fail
 go_loopw [8] (fun vi wr=>∃ k:Nat,vi=.int .i64 k∧k≤n∧Hid ((l.any fun q=>!K.right q)=(l.drop k).any fun q=>!K.right q)∧Below w.heap.size w wr) (fun vi _=>n - (intOf vi).toNat)
 case atStart=>exact ⟨0,rfl,by omega,by show _=_;rw [List.drop_zero],Below.refl _ _⟩
 case round =>
  obtain ⟨k,rfl,hk,hr,hbr⟩:=hrel
  by_cases hlt:k < n
  ·obtain ⟨ad,q,rfl,hg,c0,c1,c2⟩:=Lines.at_ (hl.below hbr) hlt
   have HS:=Lib.hid (drop_any (p:=fun q=>!K.right q) hg)
   clear hg
   go_wp2_with fail
   refine (build1_any q _).mono ?_
   rintro e w1 ⟨rfl,hb1⟩
   cases hpx:K.right q
   ·go_wp2_with fail
    go_ret
    exact ⟨⟨k,rfl,by rw [hr.out,HS.out,hpx];simp⟩,bel hbr hb1⟩
   ·go_wp2_with fail
    go_roundw
    case rel=>exact ⟨k + 1,by go_num,by omega,by show _=_;rw [hr.out,HS.out,hpx];rfl,bel hbr hb1⟩
    case measure=>simp [intOf];omega
  ·have hd:l.drop k=[]:=List.drop_eq_nil_of_le (by rw [←hl.1];omega)
   have HD:=Lib.hid hd
   clear hd
   go_wp2_with fail
   go_ret
   exact ⟨⟨-1,rfl,by rw [hr.out,HD.out];rfl⟩,hbr⟩
set_option maxHeartbeats 400000 in
theorem contains_any (A:Option Addr) (n c:Nat) (l:List Ln) (w:World) (hl:Lines w A n l) (hn:n≤1000000000) :
  Calls Tryz.prog 156 #[.slice A n c,.func (.func 157) #[] #[]] w fun e w'=>e=.returned (.bool (l.any fun q=>!K.right q))∧Below w.heap.size w w':=by
 go_enter Tryz.func156,Tryz.ntmps156
 go_wp2_with fail
 refine (index_any A n c l _ hl hn).mono ?_
 rintro e w1 ⟨⟨i,rfl,hi⟩,hb1⟩
 go_wp2_with fail
 go_ret
 exact ⟨rfl,hb1⟩
end Vt
namespace Vt
structure Two (w w':World) (b:Nat) (r:Option Nat):Prop where
 os:w'.os=w.os
 tape:w'.tape=w.tape
 output:w'.output=w.output
 size:w.heap.size≤w'.heap.size
 block:∀ k,k < w.heap.size→k ≠ b→some k ≠ r→w'.heap[k]? = w.heap[k]?
theorem Two.below {w w':World} {b:Nat} {r:Option Nat} (h:Two w w' b r) {B:Nat} {a:World} (hb:Below B a w) (hB:B≤w.heap.size) (h1:B≤b) (h2:∀ k,r=some k→B≤k):Below B a w' :=
 hb.trans ⟨h.os,h.tape,h.output,h.size,fun k hk=>h.block k (by omega) (by omega) (fun e=>by have:=h2 k e.symm;omega)⟩
theorem Two.own {w w':World} {b:Nat} {r:Option Nat} (h:Two w w' b r) {base:Nat} {e:TypeId} {size n:Nat} {v:Value} {xs:List Value} (ho:w.ownsRow base e size v n xs) (hb:v.ownBlock ≠ some b) (hr:∀ k,v.ownBlock=some k→r ≠ some k):w'.ownsRow base e size v n xs:=by
 obtain ⟨hl,h1 | ⟨g,cap,cur,hv,hbg,hh,rest⟩⟩:=ho
 ·exact ⟨hl,.inl h1⟩
 ·refine ⟨hl,.inr ⟨g,cap,cur,hv,hbg,?_,rest⟩⟩
  rw [h.block g (Array.getElem?_eq_some_iff.1 hh).1 (fun e=>hb (by rw [hv,←e];rfl)) (fun e=>hr g (by rw [hv];rfl) e.symm)]
  exact hh
set_option maxRecDepth 100000 in
set_option maxHeartbeats 4000000 in
theorem add_any (bb base:Nat) (v:Value) (n:Nat) (L:List It) (x:It) (w:World) (hB:w.heap[bb]? = some (.cells #[v] 194 (0,0))) (hown:w.ownsRow base 192 4 v n (itemCells L)) (hbb:v.ownBlock ≠ some bb) (hbase:base≤w.heap.size) (hn:n≤10000) :
  Calls Tryz.prog 160 #[.pointer (some ⟨bb,0,none⟩),.agg #[.int .i64 x.val,.int .i64 x.bl,.int .i64 x.lt,.int .i64 x.rt]] w fun e w'=>e=.returned (.int .i64 n)∧∃ v',w'.heap[bb]? = some (.cells #[v'] 194 (0,0))∧w'.ownsRow base 192 4 v' (n + 1) (itemCells (L ++ [x]))∧Two w w' bb v.ownBlock∧(v'.ownBlock=v.ownBlock∨∃ k,v'.ownBlock=some k∧w.heap.size≤k)∧v'.ownBlock ≠ some bb:=by
 obtain ⟨i0,hi,hz0,hz1,hz2⟩:=info_parts Tryz.info192
 have hbw:bb < w.heap.size:=lt_of_block hB
 have sz:=World.size_alloc w
 have al:=fun (o o':Obj)=>blk_alloc (blk_alloc hB o) o'
 have v0:∀ o:Obj,(w.alloc o).cell? ⟨bb,0,none⟩=some v:=fun o=>blk_cell (blk_alloc hB o) 0 _ rfl
 have v1:∀ o o':Obj,((w.alloc o).alloc o').cell? ⟨bb,0,none⟩=some v:=fun o o'=>blk_cell (al o o') 0 _ rfl
 have bd:∀ o o':Obj,Below w.heap.size w ((w.alloc o).alloc o').drew:=fun o o'=>(((Below.refl _ _).alloc (Nat.le_refl _) _).alloc (by simp) _).drew
 have own1:∀ o o':Obj,((w.alloc o).alloc o').drew.ownsRow base 192 4 v n (itemCells L):=fun o o'=>own_below hown (bd o o')
 have new1:∀ o:Obj,∀ (j:Nat) (u:Value),([Value.int .i64 x.val,.int .i64 x.bl,.int .i64 x.lt,.int .i64 x.rt])[j]? = some u→((w.alloc o).alloc (.cells #[.int .i64 x.val,.int .i64 x.bl,.int .i64 x.lt,.int .i64 x.rt] 192)).drew.cell? ((⟨w.heap.size + 1,0,none⟩:Addr).add j)=some u:=fun o j u hu=>by
  rw [add_zero_block]
  exact blk_cell (w:=(w.alloc o).alloc _) (heap_alloc_at _ _ _ (sz o).symm) j u (by simpa using hu)
 have one1:∀ u ∈ [Value.int .i64 x.val,.int .i64 x.bl,.int .i64 x.lt,.int .i64 x.rt],u.oneCell'=true:=fun u hu=>by
  simp at hu
  rcases hu with rfl | rfl | rfl | rfl <;> rfl
 have le1:n + 1≤maxLen:=by simp only [maxLen];omega
 have le2:(n + 1) * 32≤140737488355328:=by omega
 have le3:∀ o o':Obj,base≤((w.alloc o).alloc o').drew.heap.size:=fun o o'=>Nat.le_trans hbase (bd o o').size
 have ne1:some bb ≠ v.ownBlock:=fun e=>hbb e.symm
 go_enter Tryz.func160,Tryz.ntmps160
 go_wp2_with fail
 go_region_law (refine step_append_lies _ rfl (.tmp 10) (.tmp 12) 140 rfl base 192 i0 (.agg #[.int .i64 0,.int .i64 0,.int .i64 0,.int .i64 0]) 4 32 Tryz.underlying140 hi hz0 hz1 hz2 rfl (Nat.succ_pos 3) v n (itemCells L) rfl (own1 _ _) ⟨w.heap.size + 1,0,none⟩ 1 1 [.int .i64 x.val,.int .i64 x.bl,.int .i64 x.lt,.int .i64 x.rt] rfl rfl (new1 _) one1 Nat.one_pos le1 le2 (le3 _ _) _ rfl ?_;intro g4 cap4 w4 hown4 hgrow4 hlies hlt4;have hB4:=grow_blk hgrow4 (al _ _) ne1;have v4:w4.cell? ⟨bb,0,none⟩=some v:=blk_cell hB4 0 _ rfl;have vf4:w4.frozen? ⟨bb,0,none⟩=false:=by simp [World.frozen?,hB4])
 all_goals
  have hS:=blk_set hB4 0 (Value.slice (some ⟨g4,0,none⟩) (n + 1) cap4)
  have z:(w4.setCell ⟨bb,0,none⟩ (Value.slice (some ⟨g4,0,none⟩) (n + 1) cap4)).cell? ⟨bb,0,none⟩=some (Value.slice (some ⟨g4,0,none⟩) (n + 1) cap4):=blk_cell hS 0 _ rfl
  have hnb:bb ≠ g4:=fun e=>by
   rcases hlies with h | h
   ·exact hbb (by rw [h,e])
   ·have:=(bd (.cells #[.int .i64 x.val,.int .i64 x.bl,.int .i64 x.lt,.int .i64 x.rt] 192) (.cells #[.int .i64 x.val,.int .i64 x.bl,.int .i64 x.lt,.int .i64 x.rt] 192)).size
    rw [←h,←e] at this;omega
  have hR:=ownsRow_setCell_other hown4 (a:=⟨bb,0,none⟩) (show (some g4:Option Nat) ≠ some bb from fun e=>hnb (Option.some.inj e).symm) (Value.slice (some ⟨g4,0,none⟩) (n + 1) cap4)
  have hbd:=bd (.cells #[.int .i64 x.val,.int .i64 x.bl,.int .i64 x.lt,.int .i64 x.rt] 192) (.cells #[.int .i64 x.val,.int .i64 x.bl,.int .i64 x.lt,.int .i64 x.rt] 192)
  have hT:Two w (w4.setCell ⟨bb,0,none⟩ (Value.slice (some ⟨g4,0,none⟩) (n + 1) cap4)) bb v.ownBlock :=
   ⟨hgrow4.os.trans hbd.os,hgrow4.tape.trans hbd.tape,hgrow4.output.trans hbd.output,by show _≤(w4.heap.modify _ _).size;rw [Array.size_modify];exact Nat.le_trans hbd.size hgrow4.size,
    fun k hk hkb hkr=>((Below.heap_setCell w4 ⟨bb,0,none⟩ _ k hkb).trans (hgrow4.block k (Nat.lt_of_lt_of_le hk hbd.size) hkr)).trans (hbd.block k hk)⟩
  have hN:(Value.slice (some ⟨g4,0,none⟩) (n + 1) cap4).ownBlock=v.ownBlock∨∃ k,(Value.slice (some ⟨g4,0,none⟩) (n + 1) cap4).ownBlock=some k∧w.heap.size≤k:=by
   rcases hlies with h | h
   ·exact .inl h.symm
   ·exact .inr ⟨g4,rfl,by rw [h];exact hbd.size⟩
  clear hgrow4 hlies v4 vf4 hbd
  go_wp2_with fail
  go_ret
  refine ⟨by congr 2,_,hS,?_,hT,hN,fun e=>hnb (Option.some.inj e).symm⟩
  rw [itemCells,List.flatMap_append]
  exact hR
end Vt
namespace Vt
namespace K
def leafIt (x:Ln):It:=⟨x.cents,x.bl,-1,-1⟩
def get (V:List It) (i:Int):It:=(V[i.toNat]?).getD ⟨0,0,0,0⟩
def sumIt (V:List It) (a b:Int):It:=⟨(get V a).val + (get V b).val,(get V a).bl + (get V b).bl,a,b⟩
def pairUp:List It→List Int→List It × List Int
 | V,a :: b :: r=>((pairUp (V ++ [sumIt V a b]) r).1,(V.length:Int) :: (pairUp (V ++ [sumIt V a b]) r).2)
 | V,[a]=>(V,[a])
 | V,[]=>(V,[])
def levels:Nat→List It→List Int→List It × Int
 | 0,V,lv=>(V,lv.headD 0)
 | f + 1,V,lv=>if lv.length≤1 then (V,lv.headD 0) else levels f (pairUp V lv).1 (pairUp V lv).2
def cents:List Ln→Int
 | []=>0
 | x :: l=>x.cents + cents l
def idx (n:Nat) (l:List Ln):List Int:=(List.range l.length).map fun i=>((n + i:Nat):Int)
structure Built where
 items:List It
 root:Int
 leaves:List Int
 err:Int
def build (v:List It) (l:List Ln):Built :=
 if (!sound v || l.isEmpty || l.any fun x=>!right x)=true then ⟨[],-1,[],1⟩
 else if 64 < l.length∨1001 < v.length + 2 * l.length then ⟨[],-1,[],6⟩
 else if 1125899906842624 < cents l then ⟨[],-1,[],3⟩
 else ⟨(levels l.length (v ++ l.map leafIt) (idx v.length l)).1,(levels l.length (v ++ l.map leafIt) (idx v.length l)).2,idx v.length l,0⟩
end K
theorem K.cents_snoc (l:List Ln) (x:Ln):K.cents (l ++ [x])=K.cents l + x.cents:=by
 induction l with
 | nil=>simp [K.cents]
 | cons y l ih=>simp [K.cents,ih];omega
theorem K.right_cents {x:Ln} (h:K.right x=true):0≤x.cents∧x.cents≤1125899906842624∧0≤x.bl∧x.bl≤1099511627776:=by
 simp [K.right,K.btw] at h
 omega
theorem K.cents_bound {l:List Ln} (h:∀ x ∈ l,K.right x=true):0≤K.cents l∧K.cents l≤1125899906842624 * l.length:=by
 induction l with
 | nil=>simp [K.cents]
 | cons x l ih =>
  have h1:=K.right_cents (h x List.mem_cons_self)
  have h2:=ih fun y hy=>h y (List.mem_cons_of_mem _ hy)
  simp only [K.cents,List.length_cons]
  omega
theorem K.idx_snoc (n:Nat) (l:List Ln) (x:Ln):K.idx n (l ++ [x])=K.idx n l ++ [((n + l.length:Nat):Int)]:=by
 simp [K.idx,List.range_succ]
theorem K.idx_len (n:Nat) (l:List Ln):(K.idx n l).length=l.length:=by simp [K.idx]
end Vt
namespace Vt
theorem results_cell_tmp3 {fn:Func} {p u v t:Tmp} {ty:TypeId} (h:fn.results=#[.cell p ty,.tmp u,.tmp v,.tmp t]) (tmps:Array Value) (P:Program) (w:World) :
  (results fn tmps).run P w =
   ((asAddr (tmps.getD p undef)).run P w).andThen fun a w₁=>((loadVar ty a).run P w₁).andThen fun x w₂=>.ok (.tuple #[x,tmps.getD u undef,tmps.getD v undef,tmps.getD t undef]) w₂:=by
 simp only [results,h]
 simp [Sem.run_bind,Result.andThen]
def BuiltAt (b:K.Built) (e:Ending) (w':World):Prop:=∃ A' n' c' B' m' d',e=.returned (.tuple #[.agg #[.slice A' n' c'],.int .i64 b.root,.slice B' m' d',.int .i64 b.err])∧Items w' A' n' b.items∧Ints w' B' m' b.leaves
theorem built_no {b:K.Built} {x:Int} (h:b=⟨[],-1,[],x⟩) (w':World):BuiltAt b (.returned (.tuple #[.agg #[.slice none 0 0],.int .i64 (-1),.slice none 0 0,.int .i64 x])) w':=by
 subst h
 exact ⟨_,_,_,_,_,_,rfl,items_nil _,ints_nil _⟩
set_option maxRecDepth 100000 in
set_option maxHeartbeats 8000000 in
theorem build_no (A:Option Addr) (n c:Nat) (v:List It) (B:Option Addr) (m d:Nat) (l:List Ln) (w:World) (hv:Items w A n v) (hn:n≤100000) (hl:Lines w B m l) (hm:m≤100000)
  (h:(!K.sound v || l.isEmpty || l.any fun x=>!K.right x)=true∨(64 < m∨1001 < n + 2 * m)) :
  Calls Tryz.prog 114 #[.agg #[.slice A n c],.slice B m d] w fun e w'=>BuiltAt (K.build v l) e w'∧Below w.heap.size w w':=by
 have b0:=((Below.refl w.heap.size w).alloc (Nat.le_refl _) (.cells #[.slice A n c] 142)).alloc (by simp) (.cells #[.slice none 0 0] 142)
 have hP0:=blk_alloc (vbox w A n c) (.cells #[.slice none 0 0] 142)
 have sz:=World.size_alloc w (.cells #[.slice A n c] 142)
 have hO0:((w.alloc (.cells #[.slice A n c] 142)).alloc (.cells #[.slice none 0 0] 142)).heap[w.heap.size + 1]? = some (.cells #[.slice none 0 0] 142 (0,0)):=heap_alloc_at _ _ _ sz.symm
 cases h1:K.sound v
 ·have HX:=Lib.hid (show K.build v l=⟨[],-1,[],1⟩ by unfold K.build;rw [h1];rfl)
  have H1:=Lib.hid h1
  clear h h1
  go_enter Tryz.func114,Tryz.ntmps114
  go_wp2_with fail
  refine (sound_any A n c v _ (hv.below b0) (by omega)).mono ?_;rw [H1.out];rintro e w1 ⟨rfl,b1⟩
  have hO9:=blk_below b1 hO0
  have o0:w1.cell? ⟨w.heap.size + 1,0,none⟩=some (.slice none 0 0):=blk_cell hO9 0 _ rfl
  have of:w1.frozen? ⟨w.heap.size + 1,0,none⟩=false:=by simp [World.frozen?,hO9]
  go_wp2_with fail
  refine bodyPost_ret_by (v:=.tuple #[.agg #[.slice none 0 0],.int .i64 (-1),.slice none 0 0,.int .i64 1]) ?_ rfl ?_
  ·have z:(w1.setCell ⟨w.heap.size + 1,0,none⟩ (.slice none 0 0)).cell? ⟨w.heap.size + 1,0,none⟩=some (.slice none 0 0):=blk_cell (blk_set hO9 0 _) 0 _ rfl
   rw [results_cell_tmp3 rfl]
   simp [go_sem,z]
  ·exact ⟨built_no HX.out _,(bel b0 b1).setCell (by simp) _⟩
 have H1:=Lib.hid h1
 by_cases hm0:m=0
 ·have HX:=Lib.hid (show K.build v l=⟨[],-1,[],1⟩ by
   have:l=[]:=List.length_eq_zero_iff.1 (by rw [←hl.1];exact hm0)
   subst this;unfold K.build;rw [h1];rfl)
  have e0:((m:Int) == 0)=true:=by simp [hm0]
  clear h h1 hm0
  go_enter Tryz.func114,Tryz.ntmps114
  go_wp2_with fail
  refine (sound_any A n c v _ (hv.below b0) (by omega)).mono ?_;rw [H1.out];rintro e w1 ⟨rfl,b1⟩
  have hO9:=blk_below b1 hO0
  have o0:w1.cell? ⟨w.heap.size + 1,0,none⟩=some (.slice none 0 0):=blk_cell hO9 0 _ rfl
  have of:w1.frozen? ⟨w.heap.size + 1,0,none⟩=false:=by simp [World.frozen?,hO9]
  go_wp2_with fail
  refine bodyPost_ret_by (v:=.tuple #[.agg #[.slice none 0 0],.int .i64 (-1),.slice none 0 0,.int .i64 1]) ?_ rfl ?_
  ·have z:(w1.setCell ⟨w.heap.size + 1,0,none⟩ (.slice none 0 0)).cell? ⟨w.heap.size + 1,0,none⟩=some (.slice none 0 0):=blk_cell (blk_set hO9 0 _) 0 _ rfl
   rw [results_cell_tmp3 rfl]
   simp [go_sem,z]
  ·exact ⟨built_no HX.out _,(bel b0 b1).setCell (by simp) _⟩
 have e0:((m:Int) == 0)=false:=by simp;omega
 have hne:l.isEmpty=false:=by
  cases l with
  | nil=>exact absurd hl.1 hm0
  | cons a l=>rfl
 cases h2:(l.any fun x=>!K.right x)
 rotate_left
 ·have HX:=Lib.hid (show K.build v l=⟨[],-1,[],1⟩ by unfold K.build;rw [h2];simp)
  have H2:=Lib.hid h2
  clear h h1 h2 hm0 hne
  go_enter Tryz.func114,Tryz.ntmps114
  go_wp2_with fail
  refine (sound_any A n c v _ (hv.below b0) (by omega)).mono ?_;rw [H1.out];rintro e w1 ⟨rfl,b1⟩
  go_wp2_with fail
  refine (contains_any B m d l _ ((hl.below b0).below b1) (by omega)).mono ?_;rw [H2.out];rintro e w2 ⟨rfl,b2⟩
  have b3:=b1.trans (b2.mono b1.size)
  have hO9:=blk_below b3 hO0
  have o0:w2.cell? ⟨w.heap.size + 1,0,none⟩=some (.slice none 0 0):=blk_cell hO9 0 _ rfl
  have of:w2.frozen? ⟨w.heap.size + 1,0,none⟩=false:=by simp [World.frozen?,hO9]
  go_wp2_with fail
  refine bodyPost_ret_by (v:=.tuple #[.agg #[.slice none 0 0],.int .i64 (-1),.slice none 0 0,.int .i64 1]) ?_ rfl ?_
  ·have z:(w2.setCell ⟨w.heap.size + 1,0,none⟩ (.slice none 0 0)).cell? ⟨w.heap.size + 1,0,none⟩=some (.slice none 0 0):=blk_cell (blk_set hO9 0 _) 0 _ rfl
   rw [results_cell_tmp3 rfl]
   simp [go_sem,z]
  ·exact ⟨built_no HX.out _,(bel b0 b3).setCell (by simp) _⟩
 have h3:64 < m∨1001 < n + 2 * m:=by
  rcases h with h | h
  ·rw [h1,h2,hne] at h;simp at h
  ·exact h
 have H2:=Lib.hid h2
 have HX:=Lib.hid (show K.build v l=⟨[],-1,[],6⟩ by
  unfold K.build
  rw [h1,h2,hne,if_neg (by simp),if_pos (by rw [←hl.1,←hv.1];exact h3)])
 have hP9:=hP0
 clear h h1 h2 hm0 hne
 by_cases h64:64 < m
 ·go_enter Tryz.func114,Tryz.ntmps114
  go_wp2_with fail
  refine (sound_any A n c v _ (hv.below b0) (by omega)).mono ?_;rw [H1.out];rintro e w1 ⟨rfl,b1⟩
  go_wp2_with fail
  refine (contains_any B m d l _ ((hl.below b0).below b1) (by omega)).mono ?_;rw [H2.out];rintro e w2 ⟨rfl,b2⟩
  have b3:=b1.trans (b2.mono b1.size)
  have hO9:=blk_below b3 hO0
  have o0:w2.cell? ⟨w.heap.size + 1,0,none⟩=some (.slice none 0 0):=blk_cell hO9 0 _ rfl
  have of:w2.frozen? ⟨w.heap.size + 1,0,none⟩=false:=by simp [World.frozen?,hO9]
  go_wp2_with fail
  refine bodyPost_ret_by (v:=.tuple #[.agg #[.slice none 0 0],.int .i64 (-1),.slice none 0 0,.int .i64 6]) ?_ rfl ?_
  ·have z:(w2.setCell ⟨w.heap.size + 1,0,none⟩ (.slice none 0 0)).cell? ⟨w.heap.size + 1,0,none⟩=some (.slice none 0 0):=blk_cell (blk_set hO9 0 _) 0 _ rfl
   rw [results_cell_tmp3 rfl]
   simp [go_sem,z]
  ·exact ⟨built_no HX.out _,(bel b0 b3).setCell (by simp) _⟩
 ·have hbig:decide ((1000:Int) < (n:Int) + 2 * (m:Int) - 1)=true:=by simp;omega
  go_enter Tryz.func114,Tryz.ntmps114
  go_wp2_with fail
  refine (sound_any A n c v _ (hv.below b0) (by omega)).mono ?_;rw [H1.out];rintro e w1 ⟨rfl,b1⟩
  go_wp2_with fail
  refine (contains_any B m d l _ ((hl.below b0).below b1) (by omega)).mono ?_;rw [H2.out];rintro e w2 ⟨rfl,b2⟩
  have b3:=b1.trans (b2.mono b1.size)
  have p0:w2.cell? ⟨w.heap.size,0,none⟩=some (.slice A n c):=blk_cell (blk_below b3 hP9) 0 _ rfl
  have hO9:=blk_below b3 hO0
  have o0:w2.cell? ⟨w.heap.size + 1,0,none⟩=some (.slice none 0 0):=blk_cell hO9 0 _ rfl
  have of:w2.frozen? ⟨w.heap.size + 1,0,none⟩=false:=by simp [World.frozen?,hO9]
  go_wp2_with fail
  refine bodyPost_ret_by (v:=.tuple #[.agg #[.slice none 0 0],.int .i64 (-1),.slice none 0 0,.int .i64 6]) ?_ rfl ?_
  ·have z:(w2.setCell ⟨w.heap.size + 1,0,none⟩ (.slice none 0 0)).cell? ⟨w.heap.size + 1,0,none⟩=some (.slice none 0 0):=blk_cell (blk_set hO9 0 _) 0 _ rfl
   rw [results_cell_tmp3 rfl]
   simp [go_sem,z]
  ·exact ⟨built_no HX.out _,(bel b0 b3).setCell (by simp) _⟩
end Vt
namespace Vt
namespace K
def sumv (V:List It):List Int→Int
 | []=>0
 | i :: l=>(get V i).val + sumv V l
def sumb (V:List It):List Int→Int
 | []=>0
 | i :: l=>(get V i).bl + sumb V l
def fine (V:List It) (lv:List Int):Prop:=∀ i ∈ lv,(0≤i∧i < V.length)∧0≤(get V i).val∧0≤(get V i).bl
end K
theorem K.get_old {V W:List It} {i:Int} (h:0≤i∧i < V.length):K.get (V ++ W) i=K.get V i:=by
 unfold K.get
 rw [List.getElem?_append_left (by omega)]
theorem K.get_new (V:List It) (x:It) (W:List It):K.get (V ++ x :: W) (V.length:Int)=x:=by
 unfold K.get
 rw [Int.toNat_natCast,List.getElem?_append_right (Nat.le_refl _),Nat.sub_self]
 rfl
theorem K.fine_app {V W:List It} {lv:List Int} (h:K.fine V lv):K.fine (V ++ W) lv:=by
 intro i hi
 obtain ⟨h1,h2,h3⟩:=h i hi
 rw [K.get_old h1]
 exact ⟨⟨h1.1,by rw [List.length_append];omega⟩,h2,h3⟩
theorem K.sumv_app {V W:List It}:∀ {lv:List Int},K.fine V lv→K.sumv (V ++ W) lv=K.sumv V lv:=by
 intro lv
 induction lv with
 | nil=>intro _;rfl
 | cons i lv ih =>
  intro h
  simp only [K.sumv]
  rw [ih fun j hj=>h j (List.mem_cons_of_mem _ hj),K.get_old (h i List.mem_cons_self).1]
theorem K.sumb_app {V W:List It}:∀ {lv:List Int},K.fine V lv→K.sumb (V ++ W) lv=K.sumb V lv:=by
 intro lv
 induction lv with
 | nil=>intro _;rfl
 | cons i lv ih =>
  intro h
  simp only [K.sumb]
  rw [ih fun j hj=>h j (List.mem_cons_of_mem _ hj),K.get_old (h i List.mem_cons_self).1]
theorem K.sumv_mem {V:List It}:∀ {lv:List Int},K.fine V lv→(0≤K.sumv V lv∧∀ i ∈ lv,(K.get V i).val≤K.sumv V lv):=by
 intro lv
 induction lv with
 | nil=>intro _;exact ⟨Int.le_refl _,fun i hi=>by simp at hi⟩
 | cons j lv ih =>
  intro h
  obtain ⟨h1,h2⟩:=ih fun i hi=>h i (List.mem_cons_of_mem _ hi)
  have hj:=(h j List.mem_cons_self).2.1
  refine ⟨by simp only [K.sumv];omega,fun i hi=>?_⟩
  simp only [K.sumv]
  rcases List.mem_cons.1 hi with rfl | hi
  ·omega
  ·have:=h2 i hi;omega
theorem K.sumb_mem {V:List It}:∀ {lv:List Int},K.fine V lv→(0≤K.sumb V lv∧∀ i ∈ lv,(K.get V i).bl≤K.sumb V lv):=by
 intro lv
 induction lv with
 | nil=>intro _;exact ⟨Int.le_refl _,fun i hi=>by simp at hi⟩
 | cons j lv ih =>
  intro h
  obtain ⟨h1,h2⟩:=ih fun i hi=>h i (List.mem_cons_of_mem _ hi)
  have hj:=(h j List.mem_cons_self).2.2
  refine ⟨by simp only [K.sumb];omega,fun i hi=>?_⟩
  simp only [K.sumb]
  rcases List.mem_cons.1 hi with rfl | hi
  ·omega
  ·have:=h2 i hi;omega
theorem K.pair_fine:∀ (m:Nat) (lv:List Int) (V:List It),lv.length≤m→K.fine V lv →
  K.fine (K.pairUp V lv).1 (K.pairUp V lv).2∧K.sumv (K.pairUp V lv).1 (K.pairUp V lv).2=K.sumv V lv∧K.sumb (K.pairUp V lv).1 (K.pairUp V lv).2=K.sumb V lv ∧
   (∃ W,(K.pairUp V lv).1=V ++ W)∧(K.pairUp V lv).1.length + (K.pairUp V lv).2.length=V.length + lv.length∧2 * (K.pairUp V lv).2.length≤lv.length + 1∧lv.length≤2 * (K.pairUp V lv).2.length:=by
 intro m
 induction m with
 | zero =>
  intro lv V hm h
  have:lv=[]:=List.length_eq_zero_iff.1 (by omega)
  subst this
  exact ⟨h,rfl,rfl,⟨[],by simp [K.pairUp]⟩,rfl,by simp [K.pairUp],by simp⟩
 | succ m ih =>
  intro lv V hm h
  rcases lv with _ | ⟨a,_ | ⟨b,r⟩⟩
  ·exact ⟨h,rfl,rfl,⟨[],by simp [K.pairUp]⟩,rfl,by simp [K.pairUp],by simp⟩
  ·exact ⟨h,rfl,rfl,⟨[],by simp [K.pairUp]⟩,rfl,by simp [K.pairUp],by simp [K.pairUp]⟩
  ·have ha:=h a List.mem_cons_self
   have hb:=h b (List.mem_cons_of_mem _ List.mem_cons_self)
   have hr:K.fine V r:=fun i hi=>h i (List.mem_cons_of_mem _ (List.mem_cons_of_mem _ hi))
   have hr1:K.fine (V ++ [K.sumIt V a b]) r:=K.fine_app hr
   obtain ⟨g1,g2,g3,⟨W,g4⟩,g5,g6,g7⟩:=ih r (V ++ [K.sumIt V a b]) (by simp at hm;omega) hr1
   have hget:K.get (K.pairUp (V ++ [K.sumIt V a b]) r).1 (V.length:Int)=K.sumIt V a b:=by
    rw [g4,List.append_assoc];exact K.get_new V _ W
   simp only [K.pairUp]
   refine ⟨?_,?_,?_,⟨K.sumIt V a b :: W,by rw [g4];simp⟩,?_,?_,?_⟩
   ·intro i hi
    rcases List.mem_cons.1 hi with rfl | hi
    ·rw [hget]
     refine ⟨⟨by omega,by rw [g4];simp;omega⟩,?_,?_⟩
     ·show 0≤(K.get V a).val + (K.get V b).val;omega
     ·show 0≤(K.get V a).bl + (K.get V b).bl;omega
    ·exact g1 i hi
   ·simp only [K.sumv]
    rw [hget,g2,K.sumv_app hr]
    show (K.get V a).val + (K.get V b).val + _=_;omega
   ·simp only [K.sumb]
    rw [hget,g3,K.sumb_app hr]
    show (K.get V a).bl + (K.get V b).bl + _=_;omega
   ·simp only [List.length_cons,List.length_append,List.length_nil] at g5 ⊢;omega
   ·simp only [List.length_cons] at g6 ⊢;omega
   ·simp only [List.length_cons] at g7 ⊢;omega
theorem K.pair_next {V V':List It} {lv nx:List Int} {t:Nat} {a b:Int} (h:K.pairUp V lv=((K.pairUp V' (lv.drop (2 * t))).1,nx ++ (K.pairUp V' (lv.drop (2 * t))).2)) (ha:lv[2 * t]? = some a) (hb:lv[2 * t + 1]? = some b) :
  K.pairUp V lv=((K.pairUp (V' ++ [K.sumIt V' a b]) (lv.drop (2 * (t + 1)))).1,(nx ++ [(V'.length:Int)]) ++ (K.pairUp (V' ++ [K.sumIt V' a b]) (lv.drop (2 * (t + 1)))).2):=by
 obtain ⟨h1,e1⟩:=List.getElem?_eq_some_iff.1 ha
 obtain ⟨h2,e2⟩:=List.getElem?_eq_some_iff.1 hb
 rw [h,List.drop_eq_getElem_cons h1,e1,List.drop_eq_getElem_cons h2,e2]
 simp only [K.pairUp,List.append_assoc,List.cons_append,List.nil_append]
 rw [show 2 * (t + 1)=2 * t + 1 + 1 by omega]
theorem K.leaf_get (v:List It) (l:List Ln) (i:Nat) (x:Ln) (hx:l[i]? = some x):K.get (v ++ l.map K.leafIt) ((v.length + i:Nat):Int)=K.leafIt x:=by
 unfold K.get
 rw [Int.toNat_natCast,List.getElem?_append_right (by omega),Nat.add_sub_cancel_left,List.getElem?_map,hx]
 rfl
end Vt
namespace Vt
structure Bld (base bb:Nat) (w:World) (vv:Value) (V:List It):Prop where
 blk:w.heap[bb]? = some (.cells #[vv] 194 (0,0))
 own:w.ownsRow base 192 4 vv V.length (itemCells V)
 ne:vv.ownBlock ≠ some bb
structure Apart (base bb:Nat) (w:World) (vv u:Value) (l:List Int):Prop where
 own:w.ownsRow base 3 1 u l.length (intCells l)
 ne:u.ownBlock ≠ some bb
 dis:∀ g,u.ownBlock=some g→vv.ownBlock ≠ some g
theorem own_grow {w w':World} {r:Option Nat} (h:w.grownBy w' r) {base:Nat} {e:TypeId} {size n:Nat} {v:Value} {xs:List Value} (ho:w.ownsRow base e size v n xs) (hr:∀ g,v.ownBlock=some g→r ≠ some g):w'.ownsRow base e size v n xs:=by
 obtain ⟨hl,h1 | ⟨g,cap,cur,hv,hbg,hh,rest⟩⟩:=ho
 ·exact ⟨hl,.inl h1⟩
 ·refine ⟨hl,.inr ⟨g,cap,cur,hv,hbg,?_,rest⟩⟩
  rw [h.block g (Array.getElem?_eq_some_iff.1 hh).1 (fun e=>hr g (by rw [hv];rfl) e.symm)]
  exact hh
theorem bld_append {base bb:Nat} {w5 w6:World} {vv u u':Value} {V:List It} {l l':List Int} {o:Obj} (hB:Bld base bb w5 vv V) (hU:Apart base bb w5 vv u l) (hg:(w5.alloc o).grownBy w6 u.ownBlock) (ho:w6.ownsRow base 3 1 u' l'.length (intCells l'))
  (hat:u'.ownBlock=u.ownBlock∨u'.ownBlock=some (w5.alloc o).heap.size):Bld base bb w6 vv V∧Apart base bb w6 vv u' l':=by
 have sz:=World.size_alloc w5 o
 have hbw:=lt_of_block hB.blk
 refine ⟨⟨grow_blk hg (blk_alloc hB.blk o) (fun e=>hU.ne e.symm),own_grow hg (hB.own.alloc o) (fun g h e=>hU.dis g e h),hB.ne⟩,⟨ho,fun e=>?_,fun g h e=>?_⟩⟩
 ·rcases hat with h | h
  ·exact hU.ne (h ▸ e)
  ·rw [h] at e;injection e with e;omega
 ·rcases hat with h' | h'
  ·exact hU.dis g (h' ▸ h) e
  ·rw [h'] at h;injection h with h
   have:=(hB.own.lt g e).2
   omega
theorem Bld.below {base bb:Nat} {w w':World} {vv:Value} {V:List It} (h:Bld base bb w vv V) (hb:Below w.heap.size w w'):Bld base bb w' vv V:=⟨blk_below hb h.blk,own_below h.own hb,h.ne⟩
theorem Apart.below {base bb:Nat} {w w':World} {vv u:Value} {l:List Int} (h:Apart base bb w vv u l) (hb:Below w.heap.size w w'):Apart base bb w' vv u l:=⟨own_below h.own hb,h.ne,h.dis⟩
theorem Apart.nil (base bb:Nat) (w:World) (vv:Value):Apart base bb w vv (.slice none 0 0) []:=⟨World.ownsRow_nil _ _ _ _,by simp [Value.ownBlock],fun g h=>by cases h⟩
theorem Apart.two {base bb:Nat} {w w':World} {vv vv' u:Value} {l:List Int} (h:Apart base bb w vv u l) (hT:Two w w' bb vv.ownBlock) (hN:vv'.ownBlock=vv.ownBlock∨∃ k,vv'.ownBlock=some k∧w.heap.size≤k):Apart base bb w' vv' u l :=
 ⟨hT.own h.own h.ne h.dis,h.ne,fun g hg e=>by
  rcases hN with h9 | ⟨k,h9,h8⟩
  ·exact h.dis g hg (h9 ▸ e)
  ·rw [h9] at e;injection e with e
   have:=(h.own.lt g hg).2
   omega⟩
theorem Apart.grow {base bb:Nat} {w w':World} {vv u x:Value} {l:List Int} (h:Apart base bb w vv u l) (hg:w.grownBy w' x.ownBlock) (hx:∀ g,u.ownBlock=some g→x.ownBlock ≠ some g):Apart base bb w' vv u l :=
 ⟨own_grow hg h.own hx,h.ne,h.dis⟩
structure St (base bb:Nat) (w:World) (vv:Value) (V:List It) (u:Value) (lu:List Int) (q:Value) (lq:List Int) (x:Value) (lx:List Int):Prop where
 B:Bld base bb w vv V
 U:Apart base bb w vv u lu
 Q:Apart base bb w vv q lq
 N:Apart base bb w vv x lx
 nu:∀ g,u.ownBlock=some g→x.ownBlock ≠ some g
 nq:∀ g,q.ownBlock=some g→x.ownBlock ≠ some g
theorem St.below {base bb:Nat} {w w':World} {vv:Value} {V:List It} {u:Value} {lu:List Int} {q:Value} {lq:List Int} {x:Value} {lx:List Int} (h:St base bb w vv V u lu q lq x lx) (hb:Below w.heap.size w w'):St base bb w' vv V u lu q lq x lx :=
 ⟨h.B.below hb,h.U.below hb,h.Q.below hb,h.N.below hb,h.nu,h.nq⟩
theorem St.added {base bb:Nat} {w w':World} {vv vv':Value} {V V':List It} {u:Value} {lu:List Int} {q:Value} {lq:List Int} {x:Value} {lx:List Int} (h:St base bb w vv V u lu q lq x lx)
  (hb:w'.heap[bb]? = some (.cells #[vv'] 194 (0,0))) (ho:w'.ownsRow base 192 4 vv' V'.length (itemCells V')) (hT:Two w w' bb vv.ownBlock) (hN:vv'.ownBlock=vv.ownBlock∨∃ k,vv'.ownBlock=some k∧w.heap.size≤k) (hne:vv'.ownBlock ≠ some bb):St base bb w' vv' V' u lu q lq x lx :=
 ⟨⟨hb,ho,hne⟩,h.U.two hT hN,h.Q.two hT hN,h.N.two hT hN,h.nu,h.nq⟩
theorem St.app {base bb:Nat} {w w':World} {vv:Value} {V:List It} {u:Value} {lu:List Int} {q:Value} {lq:List Int} {x x':Value} {lx lx':List Int} {o:Obj} (h:St base bb w vv V u lu q lq x lx)
  (hg:(w.alloc o).grownBy w' x.ownBlock) (ho:w'.ownsRow base 3 1 x' lx'.length (intCells lx')) (hat:x'.ownBlock=x.ownBlock∨x'.ownBlock=some (w.alloc o).heap.size):St base bb w' vv V u lu q lq x' lx':=by
 obtain ⟨hB,hN⟩:=bld_append h.B h.N hg ho hat
 have sz:=World.size_alloc w o
 have hb:Below w.heap.size w (w.alloc o):=(Below.refl _ _).alloc (Nat.le_refl _) _
 refine ⟨hB,(h.U.below hb).grow hg h.nu,(h.Q.below hb).grow hg h.nq,hN,fun g h1 h2=>?_,fun g h1 h2=>?_⟩
 ·rcases hat with e | e
  ·exact h.nu g h1 (e ▸ h2)
  ·rw [e] at h2;injection h2 with h2
   have:=(h.U.own.lt g h1).2
   omega
 ·rcases hat with e | e
  ·exact h.nq g h1 (e ▸ h2)
  ·rw [e] at h2;injection h2 with h2
   have:=(h.Q.own.lt g h1).2
   omega
theorem St.start {base bb:Nat} {w:World} {vv:Value} {V:List It} {u:Value} {lu:List Int} {q:Value} {lq:List Int} (hB:Bld base bb w vv V) (hU:Apart base bb w vv u lu) (hQ:Apart base bb w vv q lq):St base bb w vv V u lu q lq (.slice none 0 0) [] :=
 ⟨hB,hU,hQ,Apart.nil _ _ _ _,by simp [Value.ownBlock],by simp [Value.ownBlock]⟩
structure Same3 (w w':World) (b:Nat) (r s:Option Nat):Prop where
 os:w'.os=w.os
 tape:w'.tape=w.tape
 output:w'.output=w.output
 size:w.heap.size≤w'.heap.size
 block:∀ k,k < w.heap.size→k ≠ b→some k ≠ r→some k ≠ s→w'.heap[k]? = w.heap[k]?
theorem Same3.refl (w:World) (b:Nat) (r s:Option Nat):Same3 w w b r s:=⟨rfl,rfl,rfl,Nat.le_refl _,fun _ _ _ _ _=>rfl⟩
theorem Same3.below {w w1 w2:World} {b:Nat} {r s:Option Nat} (h:Same3 w w1 b r s) (hb:Below w1.heap.size w1 w2):Same3 w w2 b r s :=
 ⟨hb.os.trans h.os,hb.tape.trans h.tape,hb.output.trans h.output,Nat.le_trans h.size hb.size,fun k hk h1 h2 h3=>(hb.block k (Nat.lt_of_lt_of_le hk h.size)).trans (h.block k hk h1 h2 h3)⟩
theorem Same3.low {B:Nat} {a w w':World} {b:Nat} {r s:Option Nat} (h:Same3 w w' b r s) (hb:Below B a w) (hB:B≤w.heap.size) (h1:B≤b) (h2:∀ k,r=some k→B≤k) (h3:∀ k,s=some k→B≤k):Below B a w' :=
 hb.trans ⟨h.os,h.tape,h.output,h.size,fun k hk=>h.block k (by omega) (by omega) (fun e=>by have:=h2 k e.symm;omega) (fun e=>by have:=h3 k e.symm;omega)⟩
namespace K
def blinds:List Ln→Int
 | []=>0
 | x :: l=>x.bl + blinds l
structure Ok (V:List It) (lv:List Int) (X Y:Int):Prop where
 fine:K.fine V lv
 v:K.sumv V lv≤X
 b:K.sumb V lv≤Y
end K
theorem K.blinds_bound {l:List Ln} (h:∀ x ∈ l,K.right x=true):0≤K.blinds l∧K.blinds l≤1099511627776 * l.length:=by
 induction l with
 | nil=>simp [K.blinds]
 | cons x l ih =>
  have h1:=K.right_cents (h x List.mem_cons_self)
  have h2:=ih fun y hy=>h y (List.mem_cons_of_mem _ hy)
  simp only [K.blinds,List.length_cons]
  omega
theorem K.leaves_sums (v:List It):∀ (l l0:List Ln),K.sumv (v ++ (l0 ++ l).map K.leafIt) ((List.range' l0.length l.length).map fun i=>((v.length + i:Nat):Int))=K.cents l∧K.sumb (v ++ (l0 ++ l).map K.leafIt) ((List.range' l0.length l.length).map fun i=>((v.length + i:Nat):Int))=K.blinds l:=by
 intro l
 induction l with
 | nil=>intro l0;exact ⟨rfl,rfl⟩
 | cons x l ih =>
  intro l0
  have h:=ih (l0 ++ [x])
  rw [List.length_append,List.append_assoc,List.cons_append,List.nil_append] at h
  have hx:(l0 ++ x :: l)[l0.length]? = some x:=by simp
  have hg:=K.leaf_get v (l0 ++ x :: l) l0.length x hx
  simp only [List.length_cons,List.range'_succ,List.map_cons,K.sumv,K.sumb,K.cents,K.blinds]
  rw [hg]
  simp only [List.length_cons,List.length_nil,Nat.zero_add] at h
  rw [h.1,h.2]
  exact ⟨rfl,rfl⟩
theorem K.leaves_sum (v:List It) (l:List Ln):K.sumv (v ++ l.map K.leafIt) (K.idx v.length l)=K.cents l∧K.sumb (v ++ l.map K.leafIt) (K.idx v.length l)=K.blinds l:=by
 have h:=K.leaves_sums v l []
 rw [List.nil_append,List.length_nil] at h
 unfold K.idx
 rw [List.range_eq_range']
 exact h
theorem K.leaves_fine {v:List It} {l:List Ln} (h:∀ x ∈ l,K.right x=true):K.fine (v ++ l.map K.leafIt) (K.idx v.length l):=by
 intro i hi
 obtain ⟨j,hj,rfl⟩:=List.mem_map.1 hi
 rw [List.mem_range] at hj
 have hx:l[j]? = some (l[j]'hj):=List.getElem?_eq_getElem hj
 have:=K.right_cents (h _ (List.getElem_mem hj))
 rw [K.leaf_get v l j _ hx]
 exact ⟨⟨by omega,by rw [List.length_append,List.length_map];omega⟩,this.1,this.2.2.1⟩
theorem K.drop_two {lv:List Int} {t:Nat} {a b:Int} (ha:lv[2 * t]? = some a) (hb:lv[2 * t + 1]? = some b):lv.drop (2 * t)=a :: b :: lv.drop (2 * (t + 1)):=by
 obtain ⟨h1,e1⟩:=List.getElem?_eq_some_iff.1 ha
 obtain ⟨h2,e2⟩:=List.getElem?_eq_some_iff.1 hb
 rw [List.drop_eq_getElem_cons h1,e1,List.drop_eq_getElem_cons h2,e2,show 2 * (t + 1)=2 * t + 1 + 1 by omega]
theorem K.Ok.two {V:List It} {a b:Int} {r:List Int} {X Y:Int} (h:K.Ok V (a :: b :: r) X Y) :
  (0≤a∧a < V.length)∧(0≤b∧b < V.length)∧(0≤(K.get V a).val∧0≤(K.get V b).val∧(K.get V a).val + (K.get V b).val≤X)∧(0≤(K.get V a).bl∧0≤(K.get V b).bl∧(K.get V a).bl + (K.get V b).bl≤Y)∧∀ x,K.Ok (V ++ [x]) r X Y:=by
 have ha:=h.fine a List.mem_cons_self
 have hb:=h.fine b (List.mem_cons_of_mem _ List.mem_cons_self)
 have hr:K.fine V r:=fun i hi=>h.fine i (List.mem_cons_of_mem _ (List.mem_cons_of_mem _ hi))
 have h1:=K.sumv_mem hr
 have h2:=K.sumb_mem hr
 have hv:=h.v
 have hbl:=h.b
 simp only [K.sumv,K.sumb] at hv hbl
 refine ⟨ha.1,hb.1,⟨ha.2.1,hb.2.1,by omega⟩,⟨ha.2.2,hb.2.2,by omega⟩,fun x=>⟨K.fine_app hr,by rw [K.sumv_app hr];omega,by rw [K.sumb_app hr];omega⟩⟩
theorem K.levels_step {f:Nat} {V:List It} {lv:List Int} (h:1 < lv.length) (hf:lv.length≤f + 1):K.levels (f + 1) V lv=K.levels f (K.pairUp V lv).1 (K.pairUp V lv).2:=by
 have:=hf
 simp only [K.levels]
 rw [if_neg (by omega)]
theorem K.levels_end (f:Nat) (V:List It) (z:Int):K.levels f V [z] = (V,z):=by
 cases f <;> simp [K.levels]
theorem K.pair_even {V V':List It} {lv nx:List Int} {t:Nat} (h:K.pairUp V lv=((K.pairUp V' (lv.drop (2 * t))).1,nx ++ (K.pairUp V' (lv.drop (2 * t))).2)) (hl:lv.length≤2 * t):K.pairUp V lv=(V',nx):=by
 rw [h,List.drop_eq_nil_iff.2 hl]
 simp [K.pairUp]
theorem K.pair_odd {V V':List It} {lv nx:List Int} {t:Nat} {z:Int} (h:K.pairUp V lv=((K.pairUp V' (lv.drop (2 * t))).1,nx ++ (K.pairUp V' (lv.drop (2 * t))).2)) (hl:lv.length=2 * t + 1) (hz:lv[2 * t]? = some z):K.pairUp V lv=(V',nx ++ [z]):=by
 obtain ⟨h1,e1⟩:=List.getElem?_eq_some_iff.1 hz
 rw [h,List.drop_eq_getElem_cons h1,e1,List.drop_eq_nil_iff.2 (by omega)]
 simp [K.pairUp]
theorem K.level_up {V V':List It} {lv nl:List Int} {X Y:Int} {f c:Nat} {r:List It × Int} (hp:K.pairUp V lv=(V',nl)) (hok:K.Ok V lv X Y) (h1:1 < lv.length) (hr:r=K.levels f V lv) (hf:lv.length≤f) (hc:V.length + lv.length=c) :
  K.Ok V' nl X Y∧(∃ g,r=K.levels g V' nl∧nl.length≤g)∧V'.length + nl.length=c∧nl.length < lv.length∧0 < nl.length:=by
 obtain ⟨g1,g2,g3,_,g5,g6,g7⟩:=K.pair_fine lv.length lv V (Nat.le_refl _) hok.fine
 rw [hp] at g1 g2 g3 g5 g6 g7
 obtain ⟨g,rfl⟩:∃ g,f=g + 1:=⟨f - 1,by omega⟩
 refine ⟨⟨g1,by rw [g2];exact hok.v,by rw [g3];exact hok.b⟩,⟨g,by rw [hr,K.levels_step h1 hf,hp],by simp only at g6;omega⟩,by rw [←hc];exact g5,by simp only at g6;omega,by simp only at g7;omega⟩
theorem K.even_no {n t:Nat} (h:n=2 * t):((n:Int) % 2 == 1)=false:=by
 rw [beq_eq_false_iff_ne];omega
theorem K.odd_yes {n t:Nat} (h:n=2 * t + 1):((n:Int) % 2 == 1)=true:=by
 rw [beq_iff_eq];omega
theorem own_low {w:World} {a b:Nat} {e:TypeId} {size n:Nat} {v:Value} {xs:List Value} (h:w.ownsRow b e size v n xs) (hab:a≤b):w.ownsRow a e size v n xs:=by
 obtain ⟨hl,h1 | ⟨g,cap,cur,hv,hbg,rest⟩⟩:=h
 ·exact ⟨hl,.inl h1⟩
 ·exact ⟨hl,.inr ⟨g,cap,cur,hv,Nat.le_trans hab hbg,rest⟩⟩
theorem Apart.fresh {base bb:Nat} {w w':World} {vv q:Value} {V:List It} {l:List Int} (hB:Bld base bb w vv V) (hq:w'.ownsRow w.heap.size 3 1 q l.length (intCells l)) (hbase:base≤w.heap.size):Apart base bb w' vv q l :=
 ⟨own_low hq hbase,fun e=>by have:=(hq.lt bb e).1;have:=lt_of_block hB.blk;omega,fun g h e=>by have:=(hq.lt g h).1;have:=(hB.own.lt g e).2;omega⟩
theorem own_ints_at {w:World} {base:Nat} {A:Option Addr} {n c:Nat} {l:List Int} (h:w.ownsRow base 3 1 (.slice A n c) l.length (intCells l)):Ints w A l.length l:=by
 obtain ⟨A',c',e,hr,_⟩:=own_form h
 injection e with e1 e2 e3
 subst e1
 exact ⟨rfl,hr⟩
theorem own_len {w:World} {base:Nat} {e:TypeId} {size n:Nat} {v:Value} {xs:List Value} (h:w.ownsRow base e size v n xs):∃ A c,v=.slice A n c:=by
 obtain ⟨A',c',e,_⟩:=own_form h
 exact ⟨A',c',e⟩
def vlen:Value→Nat
 | .slice _ n _=>n
 | _=>0
theorem K.get_at {V:List It} {i:Nat} {x:It} (h:V[i]? = some x):K.get V (i:Int)=x:=by
 unfold K.get
 rw [Int.toNat_natCast,h];rfl
theorem add_pos (a:Addr) (i:Nat):a.add (i + 1)=⟨a.block,a.off + (i + 1),none⟩:=by unfold Addr.add;rw [if_neg (by omega)]
theorem Same3.cell {w w':World} {b:Nat} {r s:Option Nat} (h:Same3 w w' b r s) {a:Addr} {x:Value} (hc:w.cell? a=some x) (h1:a.block ≠ b) (h2:some a.block ≠ r) (h3:some a.block ≠ s):w'.cell? a=some x:=by
 rw [World.cell?_of_block (h.block _ (cell_lt hc) h1 h2 h3)];exact hc
theorem Same3.two {w w1 w2:World} {b:Nat} {r s:Option Nat} (h:Same3 w w1 b r s) (hT:Two w1 w2 b r):Same3 w w2 b r s :=
 ⟨hT.os.trans h.os,hT.tape.trans h.tape,hT.output.trans h.output,Nat.le_trans h.size hT.size,fun k hk h1 h2 h3=>(hT.block k (Nat.lt_of_lt_of_le hk h.size) h1 h2).trans (h.block k hk h1 h2 h3)⟩
theorem Same3.grow {w w1 w2:World} {b:Nat} {r s:Option Nat} (h:Same3 w w1 b r s) (hg:w1.grownBy w2 s):Same3 w w2 b r s :=
 ⟨hg.os.trans h.os,hg.tape.trans h.tape,hg.output.trans h.output,Nat.le_trans h.size hg.size,fun k hk h1 h2 h3=>(hg.block k (Nat.lt_of_lt_of_le hk h.size) h3).trans (h.block k hk h1 h2 h3)⟩
end Vt
end Go.Proofs.YtippdjmpkafifaaGreat
