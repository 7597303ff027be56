import Derived.Test.YtippdjmpkafifaaGreatCV7
import Derived.Laws.ResultCell
namespace Go.Proofs.YtippdjmpkafifaaGreat
open Go.RowKit
def Sought (w w':World) (mb gb gf:Nat) (p:PS) (X:Nat→Prop) (best:Option K.Tr) (e:Ending):Prop :=
 e=.returned (.tuple #[])∧But3 w w' mb gb gf∧Memo w' mb p.x.nd p.x.l X∧BestAt w' gb gf best
structure SAt (wp w:World) (mb gb gf:Nat) (p:PS) (X:Nat→Prop) (best:Option K.Tr):Prop where
 ext:Ext wp w
 memo:Memo w mb p.x.nd p.x.l X
 best:BestAt w gb gf best
theorem SAt.pat {wp w:World} {b mb gb gf:Nat} {p:PS} {X:Nat→Prop} {best:Option K.Tr} (h:SAt wp w mb gb gf p X best) (hp:PAt wp b mb p X):PAt w b mb p X:=hp.keep h.ext h.memo
theorem SAt.below {wp w w':World} {mb gb gf:Nat} {p:PS} {X:Nat→Prop} {best:Option K.Tr} (h:SAt wp w mb gb gf p X best) (hb:Below w.heap.size w w'):SAt wp w' mb gb gf p X best :=
 ⟨h.ext.trans (Ext.below hb),h.memo.below hb,h.best.ext (Ext.below hb)⟩
theorem SAt.went {wp w w':World} {b mb gb gf:Nat} {p:PS} {X:Nat→Prop} {best:Option K.Tr} (h:SAt wp w mb gb gf p X best) (hp:PAt wp b mb p X) (hW:Went w w' b mb p X):SAt wp w' mb gb gf p X best :=
 have hx:=hW.ext (h.pat hp)
 ⟨h.ext.trans hx,hW.2.memo,h.best.ext hx⟩
theorem SAt.but {wp w w':World} {b mb gb gf:Nat} {p:PS} {X:Nat→Prop} {best best':Option K.Tr} (h:SAt wp w mb gb gf p X best) (hp:PAt wp b mb p X) (hgb:wp.heap.size≤gb) (hgf:wp.heap.size≤gf)
  (hB:But3 w w' mb gb gf) (hM:Memo w' mb p.x.nd p.x.l X) (hT:BestAt w' gb gf best'):SAt wp w' mb gb gf p X best' :=
 ⟨⟨Nat.le_trans h.ext.size hB.size,fun g cs t z e=>by
  have h1:=h.ext.cells g cs t z e
  have h2:=(Array.getElem?_eq_some_iff.1 e).1
  refine (hB.block g (Array.getElem?_eq_some_iff.1 h1).1 (fun e2=>?_) (by omega) (by omega)).trans h1
  obtain ⟨es,clock,hm,-⟩:=hp.memo
  rw [e2,hm] at e
  cases e⟩,hM,hT⟩
structure StAt (w:World) (p:PS) (gb gf:Nat) (st:K.St) (SA:Option Addr) (sn:Nat) (TA:Option Addr) (tn:Nat):Prop where
 stops:Ints w SA sn st.stops
 times:Ints w TA tn st.times
 s1:∀ ad,SA=some ad→ad.block ≠ gb∧ad.block ≠ gf
 t1:∀ ad,TA=some ad→ad.block ≠ gb∧ad.block ≠ gf
 bits:st.bits < 2 ^ p.n
 len:st.stops.length≤st.bits
 len2:st.times.length=st.stops.length
 a0:0≤st.a∧st.a < p.x.nd
 t0:0≤st.t∧st.t≤1000000
theorem Ints.but {w w':World} {mb gb gf:Nat} {nd:Int} {lr:List Ro} {X:Nat→Prop} {A:Option Addr} {n:Nat} {l:List Int} (h:Ints w A n l) (hM:Memo w mb nd lr X) (hB:But3 w w' mb gb gf) (hA:∀ ad,A=some ad→ad.block ≠ gb∧ad.block ≠ gf):Ints w' A n l :=
 ⟨h.1,h.2.1,fun hn=>by
  obtain ⟨ad,e,hc⟩:=h.2.2 hn
  refine ⟨ad,e,fun j u hu=>?_⟩
  have h1:=hc j u hu
  have h2:=cell_lt h1
  rw [add_block] at h2
  refine (World.cell?_of_block (by
   rw [add_block]
   refine hB.block _ h2 (fun e2=>?_) (hA ad e).1 (hA ad e).2
   obtain ⟨es,clock,hm,-⟩:=hM
   rw [←e2] at hm
   simp only [World.cell?,add_block,hm] at h1
   cases h1)).trans h1⟩
theorem StAt.but {w w':World} {p:PS} {mb gb gf:Nat} {nd:Int} {lr:List Ro} {X:Nat→Prop} {st:K.St} {SA TA:Option Addr} {sn tn:Nat} (h:StAt w p gb gf st SA sn TA tn) (hM:Memo w mb nd lr X) (hB:But3 w w' mb gb gf):StAt w' p gb gf st SA sn TA tn :=
 ⟨h.stops.but hM hB h.s1,h.times.but hM hB h.t1,h.s1,h.t1,h.bits,h.len,h.len2,h.a0,h.t0⟩
theorem StAt.ext {w w':World} {p:PS} {gb gf:Nat} {st:K.St} {SA TA:Option Addr} {sn tn:Nat} (h:StAt w p gb gf st SA sn TA tn) (hB:Ext w w'):StAt w' p gb gf st SA sn TA tn :=
 ⟨h.stops.ext hB,h.times.ext hB,h.s1,h.t1,h.bits,h.len,h.len2,h.a0,h.t0⟩
def StBlk (w:World) (H:Nat) (st:K.St) (SA:Option Addr) (sn sc:Nat) (TA:Option Addr) (tn tc:Nat):Prop :=
 w.heap[H]? = some (.cells #[.int .i64 (st.bits:Int),.int .i64 st.a,.int .i64 st.t,.slice SA sn sc,.slice TA tn tc] 208 (0,0))
theorem StBlk.cells {w:World} {H:Nat} {st:K.St} {SA TA:Option Addr} {sn sc tn tc:Nat} (h:StBlk w H st SA sn sc TA tn tc) :
  w.cell? ⟨H,0,none⟩=some (.int .i64 (st.bits:Int))∧w.cell? ⟨H,1,none⟩=some (.int .i64 st.a)∧w.cell? ⟨H,2,none⟩=some (.int .i64 st.t)∧w.cell? ⟨H,3,none⟩=some (.slice SA sn sc)∧w.cell? ⟨H,4,none⟩=some (.slice TA tn tc) :=
 ⟨blk_cell h 0 _ rfl,blk_cell h 1 _ rfl,blk_cell h 2 _ rfl,blk_cell h 3 _ rfl,blk_cell h 4 _ rfl⟩
theorem blk_other {w:World} {g:Nat} {o:Obj} (h:w.heap[g]? = some o) {g' i:Nat} (v:Value) (hne:g ≠ g'):(w.setCell ⟨g',i,none⟩ v).heap[g]? = some o :=
 (Below.heap_setCell w _ v g hne).trans h
theorem own_capP {w:World} {base:Nat} {e:TypeId} {size n n' c:Nat} {A:Option Addr} {xs:List Value} (h:w.ownsRow base e size (.slice A n' c) n xs):n≤c:=by
 obtain ⟨-,⟨e,e0⟩ | ⟨g',cap,cur,e,-,-,h9,-⟩⟩:=h
 ·rw [e0];exact Nat.zero_le _
 ·injection e with e1 e2 e3
  rw [e3];exact h9
theorem SAt.stored {wp w:World} {b mb gb gf:Nat} {p:PS} {X:Nat→Prop} {best:Option K.Tr} (h:SAt wp w mb gb gf p X best) (hp:PAt wp b mb p X) (hgb:wp.heap.size≤gb) (hgf:wp.heap.size≤gf) (hXb:X gb) (hXf:X gf)
  (S T:List Int) (en:Int) {A A':Option Addr} {n c n' c':Nat} (hA:Ints w A n S) (hA':Ints w A' n' T) (h1:∀ ad,A=some ad→gb < ad.block∧gf < ad.block) (h2:∀ ad,A'=some ad→gb < ad.block∧gf < ad.block) (hc:n≤c) (hc':n'≤c') :
  But3 w (((((w.setCell ⟨gb,0,none⟩ (.int .i64 0)).setCell ⟨gb,1,none⟩ (.slice A n c)).setCell ⟨gb,2,none⟩ (.slice A' n' c')).setCell ⟨gb,3,none⟩ (.int .i64 en)).setCell ⟨gf,0,none⟩ (.bool true)) mb gb gf ∧
  Memo (((((w.setCell ⟨gb,0,none⟩ (.int .i64 0)).setCell ⟨gb,1,none⟩ (.slice A n c)).setCell ⟨gb,2,none⟩ (.slice A' n' c')).setCell ⟨gb,3,none⟩ (.int .i64 en)).setCell ⟨gf,0,none⟩ (.bool true)) mb p.x.nd p.x.l X ∧
  BestAt (((((w.setCell ⟨gb,0,none⟩ (.int .i64 0)).setCell ⟨gb,1,none⟩ (.slice A n c)).setCell ⟨gb,2,none⟩ (.slice A' n' c')).setCell ⟨gb,3,none⟩ (.int .i64 en)).setCell ⟨gf,0,none⟩ (.bool true)) gb gf (some ⟨S,T,en⟩):=by
 have hmb:=hp.memo.lt
 obtain ⟨A0,n0,c0,A1,n1,c1,e0,hT,-⟩:=h.best.blk
 have hne:=h.best.ne
 refine ⟨((((((But3.refl w mb gb gf).set (.inl rfl) _ _).set (.inl rfl) _ _).set (.inl rfl) _ _).set (.inl rfl) _ _).set (.inr rfl) _ _),
  (((((h.memo.set hXb (by omega) _ _).set hXb (by omega) _ _).set hXb (by omega) _ _).set hXb (by omega) _ _).set hXf (by omega) _ _),?_,A,n,c,A',n',c',en,?_,?_⟩
 ·have hf:(((w.setCell ⟨gb,0,none⟩ (.int .i64 0)).setCell ⟨gb,1,none⟩ (.slice A n c)).setCell ⟨gb,2,none⟩ (.slice A' n' c')).setCell ⟨gb,3,none⟩ (.int .i64 en) |>.heap[gf]? = some (.cells #[.bool best.isSome] 4 (0,0)) :=
   blk_other (blk_other (blk_other (blk_other h.best.found _ (Ne.symm hne)) _ (Ne.symm hne)) _ (Ne.symm hne)) _ (Ne.symm hne)
  exact blk_set hf 0 _
 ·exact blk_other (blk_set (blk_set (blk_set (blk_set hT 0 _) 1 _) 2 _) 3 _) _ hne
 ·rintro b ⟨⟩
  exact ⟨((((hA.set _ fun ad e=>Nat.ne_of_gt (h1 ad e).1).set _ fun ad e=>Nat.ne_of_gt (h1 ad e).1).set _ fun ad e=>Nat.ne_of_gt (h1 ad e).1).set _ fun ad e=>Nat.ne_of_gt (h1 ad e).1).set _ fun ad e=>Nat.ne_of_gt (h1 ad e).2,
   ((((hA'.set _ fun ad e=>Nat.ne_of_gt (h2 ad e).1).set _ fun ad e=>Nat.ne_of_gt (h2 ad e).1).set _ fun ad e=>Nat.ne_of_gt (h2 ad e).1).set _ fun ad e=>Nat.ne_of_gt (h2 ad e).1).set _ fun ad e=>Nat.ne_of_gt (h2 ad e).2,rfl,h1,h2,hc,hc'⟩
theorem step_app_one {ops:Array Oper} {o:Oper} {a:Act} {w:World} {K:Act→World→Prop} {Q:Exit→Act→World→Prop} {E:Prop} (hgd:o.guard=none) (s x:Operand)
  (ho:o.op=.call { callee:=.builtin .append,args:=#[s,x],argTypes:=#[48,48] })
  (base:Nat) (v:Value) (n:Nat) (l:List Int) (hs:a.eval s=v) (hown:w.ownsRow base 3 1 v n (intCells l)) (g:Nat) (p:Int) (hx:a.eval x=.slice (some ⟨g,0,none⟩) 1 1)
  (hg:w.heap[g]? = some (.cells #[.int .i64 p] 3 (0,0))) (hn:n≤1000000) (hbase:base≤w.heap.size)
  (h:∀ A c w',Ints w' A (n + 1) (l ++ [p])→(∀ ad,A=some ad→base≤ad.block)→w.grownBy w' v.ownBlock→Below base w w'→K (a.put o.dst (.slice A (n + 1) c)) w') :
  if Region.wanted o (yielded ops a.tmps)=true then Oper.wp Tryz.prog o a w K Q else E:=by
 obtain ⟨i0,hi,hz0,hz1,hz2⟩:=info_parts Tryz.info3
 have hl:n=l.length:=by
  have:=hown.1
  simpa [intCells] using this.symm
 refine step_append_rd hgd s x 48 ho base 3 i0 (.int .i64 0) 1 8 Tryz.underlying48 hi hz0 hz1 hz2 rfl (by decide) v n (intCells l) hs hown (some ⟨g,0,none⟩) 1 1 [.int .i64 p] hx ⟨rfl,fun _=>⟨_,rfl,fun j u hu=>by rw [add_zero_block];exact blk_cell hg j u (by simpa using hu)⟩⟩ (fun u hu=>by simp at hu;subst hu;rfl) (by simp only [maxLen];omega) (by omega) hbase ?_
 intro v' w' h2 h3 h4
 obtain ⟨A,c,rfl,hR,hlt⟩:=own_form h2
 refine h A c w' ⟨by rw [List.length_append,←hl];rfl,by rw [intCells_app];exact hR⟩ (fun ad e=>?_) h3 ((Below.refl base w).grown h3 hbase (fun k e=>(hown.lt k e).1))
 subst e
 obtain ⟨ad0,e0,hc⟩:=hR.2 (by omega)
 injection e0 with e0
 subst e0
 rcases h2.2 with ⟨e,-⟩ | ⟨g',cap,cur,e,hb,-⟩
 ·cases e
 ·injection e with e
  injection e with e
  subst e
  exact hb
theorem ownsRow_below {w w':World} {base:Nat} {e:TypeId} {size n:Nat} {v:Value} {xs:List Value} (h:w.ownsRow base e size v n xs) (hb:Below w.heap.size w w'):w'.ownsRow base e size v n xs:=by
 obtain ⟨hl,h1 | ⟨g,cap,cur,h1,h2,h3,h4⟩⟩:=h
 ·exact ⟨hl,.inl h1⟩
 ·exact ⟨hl,.inr ⟨g,cap,cur,h1,h2,blk_below hb h3,h4⟩⟩
theorem step_app_two {ops:Array Oper} {o:Oper} {a:Act} {w w2:World} {K:Act→World→Prop} {Q:Exit→Act→World→Prop} {E:Prop} (hgd:o.guard=none) (s x:Operand)
  (ho:o.op=.call { callee:=.builtin .append,args:=#[s,x],argTypes:=#[48,48] })
  {base:Nat} {v:Value} {n:Nat} {l:List Int} (hown:w2.ownsRow base 3 1 v n (intCells l)) (hbase:base≤w2.heap.size) (hs:a.eval s=v) (g:Nat) (p:Int) (hx:a.eval x=.slice (some ⟨g,0,none⟩) 1 1)
  (hw:Below w2.heap.size w2 w) (hg:w.heap[g]? = some (.cells #[.int .i64 p] 3 (0,0))) (hn:n≤1000000)
  (h:∀ A c w',Ints w' A (n + 1) (l ++ [p])→(∀ ad,A=some ad→base≤ad.block)→w.grownBy w' v.ownBlock→Below base w w'→K (a.put o.dst (.slice A (n + 1) c)) w') :
  if Region.wanted o (yielded ops a.tmps)=true then Oper.wp Tryz.prog o a w K Q else E :=
 step_app_one hgd s x ho base v n l hs (ownsRow_below hown hw) g p hx hg hn (Nat.le_trans hbase hw.size) h
theorem bits_next_all:∀ n:Fin 7,∀ m:Fin 64,∀ k:Fin 6,m.val < 2 ^ n.val→k.val < n.val→m.val.testBit k.val=false→m.val + 2 ^ k.val < 2 ^ n.val:=by decide +kernel
theorem bits_next {m i n:Nat} (hn:n≤6) (hm:m < 2 ^ n) (hi:i < n) (hb:m.testBit i=false):m + 2 ^ i < 2 ^ n :=
 bits_next_all ⟨n,by omega⟩ ⟨m,Nat.lt_of_lt_of_le hm (Nat.pow_le_pow_right (by omega) hn)⟩ ⟨i,by omega⟩ hm hi hb
theorem below_at {w W w':World} (hb:Below w.heap.size w W) (_:Below W.heap.size W w'):w.heap.size≤W.heap.size:=hb.size
theorem lit_at {W w':World} {g:Nat} {o:Obj} (_:Below W.heap.size W w') (h:W.heap[g]? = some o):W.heap[g]? = some o:=h
theorem drew_fact {w:World} {g:Nat} {o:Obj} (h:w.heap[g]? = some o):w.drew.heap[g]? = some o:=h
theorem ints_at {W w':World} {A:Option Addr} {n:Nat} {l:List Int} (_:Below W.heap.size W w') (h:Ints W A n l):∀ w'',Below W.heap.size W w''→Ints w'' A n l:=fun _ hb=>h.below hb
namespace K
theorem go_none {rec:St→Option Tr→Option Tr} {nd:Int} {l:List Ro} {s:S} {r:List Q} {v:List Int} {st:St} {best:Option Tr} {k:Nat} {i:Int} (h:v[k]? = some i) (ho:onward nd l s r v st k i=none) :
  seek.go rec nd l s r v st best k (v.drop k)=seek.go rec nd l s r v st best (k + 1) (v.drop (k + 1)):=by
 rw [drop_of_some h,seek.go,ho]
theorem go_some {rec:St→Option Tr→Option Tr} {nd:Int} {l:List Ro} {s:S} {r:List Q} {v:List Int} {st st':St} {best:Option Tr} {k:Nat} {i:Int} (h:v[k]? = some i) (ho:onward nd l s r v st k i=some st') :
  seek.go rec nd l s r v st best k (v.drop k)=seek.go rec nd l s r v st (rec st' best) (k + 1) (v.drop (k + 1)):=by
 rw [drop_of_some h,seek.go,ho]
end K
set_option maxRecDepth 100000 in
set_option maxHeartbeats 64000000 in
theorem try_any (b mb gb gf:Nat) (p:PS) {X:Nat→Prop} (wp:World) (hpp:PAt wp b mb p X) (hgb:wp.heap.size≤gb) (hgf:wp.heap.size≤gf) (hXb:X gb) (hXf:X gf):∀ (f:Nat) (st:K.St) (best:Option K.Tr) (SA:Option Addr) (sn sc:Nat) (TA:Option Addr) (tn tc:Nat) (w:World),SAt wp w mb gb gf p X best→(∀ g,X g→g < w.heap.size) →
  StAt w p gb gf st SA sn TA tn→2 ^ p.n≤st.bits + f →
  Calls Tryz.prog 173 #[.pointer (some ⟨b,0,none⟩),.agg #[.int .i64 (st.bits:Int),.int .i64 st.a,.int .i64 st.t,.slice SA sn sc,.slice TA tn tc],.pointer (some ⟨gb,0,none⟩),.pointer (some ⟨gf,0,none⟩)] w
   fun e w'=>Sought w w' mb gb gf p X (K.seek p.x.nd p.x.l p.x.s p.x.r p.l f st best) e:=by
 intro f
 induction f with
 | zero=>intro st best SA sn sc TA tn tc w hW hX hS hf;exact absurd hS.bits (by omega)
 | succ f ih =>
  intro st best SA sn sc TA tn tc w hW hX hS hf
  have IH:=Lib.hid ih
  clear ih
  have hp:=hW.pat hpp
  have hHm:w.heap.size ≠ mb:=fun e=>by have h1:=hpp.memo.lt;have h2:=hW.ext.size;omega
  have hHb:w.heap.size ≠ gb:=fun e=>by have:=hX gb hXb;omega
  have hHf:w.heap.size ≠ gf:=fun e=>by have:=hX gf hXf;omega
  obtain ⟨w1,hw1⟩:∃ w1,w1=w.alloc (.cells #[.int .i64 (st.bits:Int),.int .i64 st.a,.int .i64 st.t,.slice SA sn sc,.slice TA tn tc] 208):=⟨_,rfl⟩
  have b1:Below w.heap.size w w1:=by rw [hw1];exact (Below.refl _ _).alloc (Nat.le_refl _) _
  have hG:StBlk w1 w.heap.size st SA sn sc TA tn tc:=by rw [hw1];exact heap_alloc_new _ _
  have hW1:=hW.below b1
  obtain ⟨A0,n0,c0,A1,n1,c1,e0,hT,hTb⟩:=hW1.best.blk
  obtain ⟨g0,g1,g2,g3,g4⟩:=hG.cells
  have f0:=blk_cell hW1.best.found 0 (.bool best.isSome) rfl
  have u3:=hT.cells.2.2.2
  cases hl:K.late best st.t
  rotate_left
  ·have HX:=Lib.hid (show K.seek p.x.nd p.x.l p.x.s p.x.r p.l (f + 1) st best=best by rw [K.seek,if_pos hl])
   obtain ⟨bt,hbt,hle⟩:∃ bt,best=some bt∧bt.end_≤st.t:=by
    cases best with
    | none=>simp [K.late] at hl
    | some bt=>exact ⟨bt,rfl,by simpa [K.late] using hl⟩
   have he0:e0=bt.end_:=(hTb bt hbt).2.2.1
   have q1:decide (e0≤st.t)=true:=by simp;omega
   have q2:best.isSome=true:=by rw [hbt];rfl
   have hq:e0≤st.t:=by omega
   rw [q2] at f0
   clear hl hbt hTb he0
   rw [hw1] at g0 g1 g2 g3 g4 f0 u3
   go_enter Tryz.func173,Tryz.ntmps173
   go_wp2_with fail
   rw [←hw1] at g0 g1 g2 g3 g4 f0 u3 ⊢
   have F0:=Beh.cell f0
   have G2:=Beh.cell g2
   have U3:=Beh.cell u3
   refine reg_beh (by kernel_rfl) (by kernel_rfl) ?_
   repeat (go_big_quiet_step (fail))
   refine wpQuiet_nil ?_
   rintro w5 ⟨⟨_,b45⟩,rfl⟩
   have b5:=bel b1 b45
   have hfin:Sought w w5 mb gb gf p X best (.returned (.tuple #[])):=⟨rfl,(But3.refl w _ _ _).below b5,hW.memo.below b5,hW.best.ext (Ext.below b5)⟩
   go_wp2_with fail
   first | refine bodyPost_ret (results_none rfl _ _ _) rfl ?_ | refine bodyPost_end (results_none rfl _ _ _) rfl ?_
   rw [HX.out]
   exact hfin
  ·rw [hw1] at g0 g1 g2 g3 g4 f0 u3
   go_enter Tryz.func173,Tryz.ntmps173
   go_wp2_with fail
   rw [←hw1] at g0 g1 g2 g3 g4 f0 u3 ⊢
   go_cut [27] from 16 to 27 (fun v27 wc=>v27=.bool false∧Below w1.heap.size w1 wc)
   case first =>
    have F0:=Beh.cell f0
    have G2:=Beh.cell g2
    have U3:=Beh.cell u3
    obtain ⟨z,hz⟩:∃ z,z=best.isSome:=⟨_,rfl⟩
    have hzq:z=true→decide (e0≤st.t)=false:=fun h=>by
     cases best with
     | none=>rw [h] at hz;cases hz
     | some bt =>
      have h1:=(hTb bt rfl).2.2.1
      have h2:decide (bt.end_≤st.t)=false:=hl
      rw [h1];exact h2
    rw [←hz] at F0
    clear hz f0 g2 u3 hl hTb
    cases z
    ·clear hzq
     refine reg_beh (by kernel_rfl) (by kernel_rfl) ?_
     repeat (go_big_quiet_step (fail))
     refine wpQuiet_nil ?_
     rintro w5 ⟨⟨_,b45⟩,rfl⟩
     go_wp2_with fail
     go_meet
     case rel=>exact ⟨rfl,b45⟩
    ·have hq:=hzq rfl
     clear hzq
     refine reg_beh (by kernel_rfl) (by kernel_rfl) ?_
     repeat (go_big_quiet_step (fail))
     refine wpQuiet_nil ?_
     rintro w5 ⟨⟨_,b45⟩,rfl⟩
     go_wp2_with fail
     go_meet
     case rel=>exact ⟨rfl,b45⟩
   case rest =>
    obtain ⟨rfl,hbc⟩:=hcut
    clear g0 g1 g2 g3 g4 f0 u3 hw1
    have hb:=bel b1 hbc
    have hG:=StBlk.cells (blk_below hbc hG:StBlk wc w.heap.size st SA sn sc TA tn tc)
    have hGc:StBlk wc w.heap.size st SA sn sc TA tn tc:=blk_below hbc (by assumption)
    have hWc:=hW.below hb
    have hpc:=hWc.pat hpp
    have HL:=Lib.hid hl
    have hn6:p.n≤6:=by have:=(K.ok31_parts hp.ok).2.2.2.2.1;have:=hp.set.1;omega
    obtain ⟨N,hN⟩:∃ N,N=2 ^ p.n:=⟨_,rfl⟩
    have hN1:1≤N:=by rw [hN];exact Nat.two_pow_pos _
    have hN64:N≤64:=by rw [hN];exact Nat.pow_le_pow_right (by omega) hn6
    have hw1:IntKind.i64.wrap ((2:Int) ^ p.n)=(N:Int):=by rw [wrap_pow (by omega),hN];simp
    have hw2:wrap64 ((2:Int) ^ p.n)=(N:Int):=by rw [←IntWalk.i64_left];exact hw1
    have HN:=Lib.hid hN
    have hbits:st.bits < N:=by rw [hN];exact hS.bits
    have hf:N≤st.bits + (f + 1):=by rw [hN];exact hf
    have hslen:=hS.len
    have hsl:sn≤64:=by rw [hS.stops.1];omega
    have htl:tn≤64:=by rw [hS.times.1,hS.len2];omega
    clear hslen
    obtain ⟨hst0,hst1⟩:=hS.t0
    clear hN hl hTb hT hW1 hbc
    obtain ⟨al,hal⟩:∃ al,al=N - 1:=⟨_,rfl⟩
    have hw3:IntKind.i64.wrap ((N:Int) - 1)=(al:Int):=by rw [IntWalk.i64_in _ (by omega)];omega
    have hw4:wrap64 ((N:Int) - 1)=(al:Int):=by rw [←IntWalk.i64_left];exact hw3
    have HAL:=Lib.hid hal
    clear hal
    have G0:=Beh.cell hGc.cells.1
    have G9:=Beh.cell hpc.blk.cells.2.2.2.2.2.2.2.2.2.1
    obtain ⟨z,hz⟩:∃ z:Bool,((st.bits:Int) == (al:Int))=z:=⟨_,rfl⟩
    go_wp2_with fail
    refine reg_beh (by kernel_rfl) (by kernel_rfl) ?_
    repeat (go_big_quiet_step (fail))
    refine wpQuiet_nil ?_
    rintro w5 ⟨⟨_,b45⟩,rfl⟩
    have HZ:=Lib.hid hz
    have hb:=bel hb b45
    have hGc:StBlk w5 w.heap.size st SA sn sc TA tn tc:=blk_below b45 hGc
    have hWc:=hWc.below b45
    have hpc:=hpc.below b45
    have hX5:∀ g,X g→g < w5.heap.size:=fun g hg=>Nat.lt_of_lt_of_le (hX g hg) hb.size
    have hwt:(Lit.int .i64 (T.weight p.x.s p.x.r (K.part p.l st.bits))).wf=true:=T.weight_wf (by have:=K.part_len p.l st.bits;have:=(K.ok31_parts hp.ok).2.2.2.2.1;omega)
    have hB5:=(But3.refl w mb gb gf).below hb
    have hS5:=hS.ext (Ext.below hb)
    clear hz G0 G9 b45 hG hb hp hW
    cases z
    ·have HS:=Lib.hid (show K.seek p.x.nd p.x.l p.x.s p.x.r p.l (f + 1) st best=K.seek.go (K.seek p.x.nd p.x.l p.x.s p.x.r p.l f) p.x.nd p.x.l p.x.s p.x.r p.l st best 0 p.l by
      rw [K.seek,if_neg (by rw [HL.out];simp),if_neg (by have h1:¬ (st.bits:Int)=(al:Int):=(by simpa using HZ.out);rw [←hpc.set.1,←HN.out,←HAL.out];omega)])
     have c9:=hpc.blk.cells.2.2.2.2.2.2.2.2.2.1
     clear HZ HL hw1 hw2 hw3 hw4
     go_wp2_with fail
     go_loopw [102] (fun v102 wr=>∃ (k:Nat) (bk:Option K.Tr),v102=.int .i64 k∧k≤p.n∧SAt wp wr mb gb gf p X bk∧But3 w wr mb gb gf∧StBlk wr w.heap.size st SA sn sc TA tn tc∧StAt wr p gb gf st SA sn TA tn ∧
      Hid (K.seek p.x.nd p.x.l p.x.s p.x.r p.l (f + 1) st best=K.seek.go (K.seek p.x.nd p.x.l p.x.s p.x.r p.l f) p.x.nd p.x.l p.x.s p.x.r p.l st bk k (p.l.drop k))) (fun v102 _=>p.n - (intOf v102).toNat)
     case atStart=>exact ⟨0,best,rfl,by omega,hWc,hB5,hGc,hS5,HS⟩
     case round =>
      clear c9 HS hWc hB5 hGc hS5 hpc hX5
      obtain ⟨k,bk,rfl,hk,hWr,hBr,hGr,hSr,hgo⟩:=hrel
      have hXr:∀ g,X g→g < wr.heap.size:=fun g hg=>Nat.lt_of_lt_of_le (hX g hg) hBr.size
      have hpr:=hWr.pat hpp
      by_cases hlt:k < p.n
      ·obtain ⟨j,q,hel,hno,hse,-⟩:=hpr.elem hlt
       obtain ⟨ads,ad,hA,hB,-,y0,e0,e1,e2,e3,-⟩:=hel.cells hpr
       have k0:(0:Int)≤(k:Int):=by omega
       have k1:(k:Int) < (p.n:Int):=by omega
       have hpw:=Nat.two_pow_pos k
       obtain ⟨l0,l1,l2,l3,l4⟩:=hGr.cells
       have HA:=Lib.hid hA
       have HB:=Lib.hid hB
       rw [hA]
       clear hA hB e0 e1 e2 e3
       cases hbit:st.bits.testBit k
       rotate_left
       ·have hb1:bits BinOp.and IntKind.i64 ((st.bits:Int) / 2 ^ k) 1=1:=by rw [bit_at (by omega) (by omega),hbit];rfl
        have HG:=Lib.hid (hgo.out.trans (K.go_none hel.set (by unfold K.onward;rw [if_pos hbit])))
        clear hbit
        go_wp2_with fail
        go_roundw
        case rel=>exact ⟨k + 1,bk,by go_num,by omega,hWr,hBr,hGr,hSr,HG⟩
        case measure=>simp [intOf];omega
       ·have hb1:bits BinOp.and IntKind.i64 ((st.bits:Int) / 2 ^ k) 1=0:=by rw [bit_at (by omega) (by omega),hbit];rfl
        have HBIT:=Lib.hid hbit
        clear hbit
        obtain ⟨dn,hdn⟩:∃ dn:Nat,q.node=(dn:Int):=⟨q.node.toNat,by omega⟩
        have HDN:=Lib.hid hdn
        clear hdn
        have hWd:=hWr.below (w':=wr.drew) (Below.refl _ _).drew
        have hpd:=hWd.pat hpp
        have CN:=node_any b mb p k j q wr.drew hpd hel
        have hS3:∀ w',Ext wr w'→(w'.cell? ⟨w.heap.size,0,none⟩=some (.int .i64 (st.bits:Int))∧w'.cell? ⟨w.heap.size,1,none⟩=some (.int .i64 st.a)):=fun w' h=>⟨h.cell hGr.cells.1,h.cell hGr.cells.2.1⟩
        have S0:=hS3 wr (Ext.refl _)
        have S0d:=hS3 wr.drew (Ext.below (Below.refl wr.heap.size wr).drew)
        have hwt2:=hwt
        have ha0:=hS.a0
        have hbd:Below wr.heap.size wr wr.drew:=(Below.refl _ _).drew
        clear l1 l2 l3 l4
        go_wp2_with fail
        go_region_held3 (fun w'=>(w'.cell? ⟨w.heap.size,0,none⟩=some (.int .i64 (st.bits:Int))∧w'.cell? ⟨w.heap.size,1,none⟩=some (.int .i64 st.a)))
         (first | assumption | exact S0 | exact S0d)
         (first
          | (go_at_call 142;refine CN.mono ?_;rintro e w6 ⟨rfl,b6⟩;have hb6:=bel hbd b6;have hW6:=hWr.below hb6;have S6:=hS3 w6 (Ext.below hb6))
          | (go_at_call 141;refine (wayd_any b mb p st.a dn st.bits w6 (hW6.pat hpp) (fun g hg=>Nat.lt_of_lt_of_le (hXr g hg) hb6.size) (by omega) ha0 HDN.out hno.2 hwt).mono ?_;rintro e w7 ⟨rfl,hWe⟩;have hx7:=(Ext.below hb6).trans (hWe.ext (hW6.pat hpp));have S7:=hS3 w7 hx7)
          | fail)
        have hW7:=hW6.went hpp hWe
        have hB7:=(hBr.below hb6).trans (But3.of hWe.1)
        have hG7:StBlk w7 w.heap.size st SA sn sc TA tn tc:=hx7.cells _ _ _ _ hGr
        have hS7:=hSr.ext hx7
        have hX7:∀ g,X g→g < w7.heap.size:=fun g hg=>Nat.lt_of_lt_of_le (hX g hg) hB7.size
        obtain ⟨hy0,hy1⟩:=K.way_bd p.x.nd p.x.l st.a (T.weight p.x.s p.x.r (K.part p.l st.bits)) q.node
        obtain ⟨y,hy⟩:∃ y,y=K.way p.x.nd p.x.l st.a (T.weight p.x.s p.x.r (K.part p.l st.bits)) q.node:=⟨_,rfl⟩
        have hon:K.onward p.x.nd p.x.l p.x.s p.x.r p.l st k (j:Int)=(if y=-1 then none else if (K.begins p.x.s p.x.r q (K.part p.l (st.bits + 2 ^ k)) (st.t + y)).2=false then none
          else some ⟨st.bits + 2 ^ k,q.node,(K.begins p.x.s p.x.r q (K.part p.l (st.bits + 2 ^ k)) (st.t + y)).1 + q.service,st.stops ++ [(j:Int)],st.times ++ [(K.begins p.x.s p.x.r q (K.part p.l (st.bits + 2 ^ k)) (st.t + y)).1]⟩):=by
         unfold K.onward
         rw [K.req_get hel.req,if_neg (by rw [HBIT.out];simp),←hy]
        rw [←hy] at hy0 hy1 ⊢
        have HON:=Lib.hid hon
        clear hy hon CN S0 S0d S6 S7 hS3 hW6 hb6 b6 hx7 hWd hpd hbd hWe hwt2 hb1 l0 hWr hBr hGr hSr hXr hpr
        cases q0:(y != -1)
        ·have HG:=Lib.hid (hgo.out.trans (K.go_none hel.set (by rw [HON.out,if_pos (by simpa using q0)])))
         clear q0
         go_wp2_with fail
         go_roundw
         case rel=>exact ⟨k + 1,bk,by go_num,by omega,hW7,hB7,hG7,hS7,HG⟩
         case measure=>simp [intOf];omega
        ·have hyn:¬ y=-1:=by simpa using q0
         have hwr:IntKind.i64.wrap (st.t + y)=st.t + y:=IntWalk.i64_in _ (by omega)
         have hlt2:st.bits + 2 ^ k < N:=by rw [HN.out];exact bits_next hn6 (by rw [←HN.out];exact hbits) hlt HBIT.out
         obtain ⟨l0,l1,l2,l3,l4⟩:=hG7.cells
         have CB:=pbegins_any b mb p st.bits k j q (st.t + y) w7 (hW7.pat hpp) hel (by omega) HBIT.out (by omega) hse
         unfold Beg at CB
         have hok:=K.begins_ok (s:=p.x.s) (r:=p.x.r) (q:=q) (all:=K.part p.l (st.bits + 2 ^ k)) (arr:=st.t + y)
         obtain ⟨B,hBE⟩:∃ B,B=K.begins p.x.s p.x.r q (K.part p.l (st.bits + 2 ^ k)) (st.t + y):=⟨_,rfl⟩
         rw [←hBE] at CB hok
         have HON2:=Lib.hid (show K.onward p.x.nd p.x.l p.x.s p.x.r p.l st k (j:Int)=(if B.2=false then none else some ⟨st.bits + 2 ^ k,q.node,B.1 + q.service,st.stops ++ [(j:Int)],st.times ++ [B.1]⟩) by rw [HON.out,if_neg hyn,←hBE])
         have HOK:=Lib.hid hok
         obtain ⟨t,ok⟩:=B
         clear hBE hok HON q0
         simp only at CB
         go_wp2_with fail
         refine CB.mono ?_
         rintro e w8 ⟨rfl,b8⟩
         have hW8:=hW7.below b8
         have hB8:=hB7.below b8
         have hG8:StBlk w8 w.heap.size st SA sn sc TA tn tc:=blk_below b8 hG7
         have hS8:=hS7.ext (Ext.below b8)
         have hX8:∀ g,X g→g < w8.heap.size:=fun g hg=>Nat.lt_of_lt_of_le (hX g hg) hB8.size
         clear l0 l1 l2 l3 l4 CB hW7 hB7 hG7 hS7 hX7 b8
         cases ok
         ·have HG:=Lib.hid (hgo.out.trans (K.go_none hel.set (by rw [HON2.out];rfl)))
          go_wp2_with fail
          go_roundw
          case rel=>exact ⟨k + 1,bk,by go_num,by omega,hW8,hB8,hG8,hS8,HG⟩
          case measure=>simp [intOf];omega
         ·obtain ⟨-,-,-,t0,t1,t2,t3⟩:=HOK.out rfl
          obtain ⟨mm,hmm⟩:∃ mm,mm=st.bits + 2 ^ k:=⟨_,rfl⟩
          have hor:bits BinOp.or IntKind.i64 (st.bits:Int) (IntKind.i64.wrap (2 ^ k))=(mm:Int):=by rw [wrap_pow (by omega),bit_or (by omega) (by omega) HBIT.out,hmm]
          have hor':bits BinOp.or IntKind.i64 (st.bits:Int) (wrap64 (2 ^ k))=(mm:Int):=by rw [←IntWalk.i64_left];exact hor
          have hwr2:IntKind.i64.wrap (t + q.service)=t + q.service:=IntWalk.i64_in _ (by omega)
          obtain ⟨best',hbest'⟩:∃ best',best'=K.seek p.x.nd p.x.l p.x.s p.x.r p.l f ⟨mm,q.node,t + q.service,st.stops ++ [(j:Int)],st.times ++ [t]⟩ bk:=⟨_,rfl⟩
          have HG:=Lib.hid (show K.seek p.x.nd p.x.l p.x.s p.x.r p.l (f + 1) st best=K.seek.go (K.seek p.x.nd p.x.l p.x.s p.x.r p.l f) p.x.nd p.x.l p.x.s p.x.r p.l st best' (k + 1) (p.l.drop (k + 1)) by
           rw [hgo.out,K.go_some hel.set HON2.out,hbest',hmm])
          have CT:∀ (A3:Option Addr) (c3:Nat) (A5:Option Addr) (c5:Nat) (w5:World),Below w8.heap.size w8 w5→Ints w5 A3 (sn + 1) (st.stops ++ [(j:Int)])→Ints w5 A5 (tn + 1) (st.times ++ [t])→(∀ ad,A3=some ad→w8.heap.size≤ad.block)→(∀ ad,A5=some ad→w8.heap.size≤ad.block) →
            Calls Tryz.prog 173 #[.pointer (some ⟨b,0,none⟩),.agg #[.int .i64 (mm:Int),.int .i64 q.node,.int .i64 (t + q.service),.slice A3 (sn + 1) c3,.slice A5 (tn + 1) c5],.pointer (some ⟨gb,0,none⟩),.pointer (some ⟨gf,0,none⟩)] w5
             fun e w'=>Sought w5 w' mb gb gf p X best' e:=fun A3 c3 A5 c5 w5 h1 h2 h3 h4 h5=>by
           rw [hbest']
           have hgbl:=hX8 gb hXb
           have hgfl:=hX8 gf hXf
           refine IH.out ⟨mm,q.node,t + q.service,st.stops ++ [(j:Int)],st.times ++ [t]⟩ bk A3 (sn + 1) c3 A5 (tn + 1) c5 w5 (hW8.below h1) (fun g hg=>Nat.lt_of_lt_of_le (hX8 g hg) h1.size) ⟨h2,h3,fun ad e=>by have:=h4 ad e;omega,fun ad e=>by have:=h5 ad e;omega,by show mm < 2 ^ p.n;rw [←HN.out];omega,?_,?_,hno,⟨by show 0≤t + q.service;omega,by show t + q.service≤1000000;omega⟩⟩ (by show 2 ^ p.n≤mm + f;rw [←HN.out];omega)
           ·have:=hS.len
            simp only [List.length_append,List.length_cons,List.length_nil]
            omega
           ·have:=hS.len2
            simp only [List.length_append,List.length_cons,List.length_nil]
            omega
          have hAl:∀ w' o',Below w8.heap.size w8 w'→Below w8.heap.size w8 (w'.alloc o'):=fun w' o' h=>bel h ((Below.refl _ _).alloc (Nat.le_refl _) _)
          have hbd:Below w8.heap.size w8 w8.drew:=(Below.refl _ _).drew
          have hmk0:∀ (w':World) (bk':Option K.Tr),SAt wp w' mb gb gf p X bk'→StBlk w' w.heap.size st SA sn sc TA tn tc→(fun (w':World)=>w'.cell? ⟨w.heap.size,0,none⟩=some (.int .i64 (st.bits:Int))∧w'.cell? ⟨w.heap.size,3,none⟩=some (.slice SA sn sc)∧w'.cell? ⟨w.heap.size,4,none⟩=some (.slice TA tn tc)∧w'.cell? ⟨b,8,none⟩=some (.slice (some ad) p.x.m p.x.d)∧w'.cell? ⟨(ad.add (j * 7)).block,(ad.add (j * 7)).off + 3,none⟩=some (.int .i64 q.service)) w':=fun w' bk' h1 h2=>by
           obtain ⟨ads',ad',-,hB',-,-,-,-,-,e3,-⟩:=hel.cells (h1.pat hpp)
           rw [HB.out] at hB'
           injection hB' with hB'
           subst hB'
           have d8:=(h1.pat hpp).blk.cells.2.2.2.2.2.2.2.2.1
           rw [HB.out] at d8
           exact ⟨h2.cells.1,h2.cells.2.2.2.1,h2.cells.2.2.2.2,d8,e3⟩
          have hmk:∀ w',Below w8.heap.size w8 w'→(fun (w':World)=>w'.cell? ⟨w.heap.size,0,none⟩=some (.int .i64 (st.bits:Int))∧w'.cell? ⟨w.heap.size,3,none⟩=some (.slice SA sn sc)∧w'.cell? ⟨w.heap.size,4,none⟩=some (.slice TA tn tc)∧w'.cell? ⟨b,8,none⟩=some (.slice (some ad) p.x.m p.x.d)∧w'.cell? ⟨(ad.add (j * 7)).block,(ad.add (j * 7)).off + 3,none⟩=some (.int .i64 q.service)) w':=fun w' h=>hmk0 w' bk (hW8.below h) (blk_below h hG8)
          have hSo:∀ w' w'',Below w8.heap.size w8 w'→But3 w' w'' mb gb gf→Memo w'' mb p.x.nd p.x.l X→BestAt w'' gb gf best'→SAt wp w'' mb gb gf p X best'∧But3 w w'' mb gb gf∧StBlk w'' w.heap.size st SA sn sc TA tn tc∧StAt w'' p gb gf st SA sn TA tn:=fun w' w'' h h1 h2 h3 =>
           ⟨(hW8.below h).but hpp hgb hgf h1 h2 h3,(hB8.below h).trans h1,(h1.block _ (lt_of_block (blk_below h hG8)) hHm hHb hHf).trans (blk_below h hG8),(hS8.ext (Ext.below h)).but (hW8.below h).memo h1⟩
          have hmk2:∀ w' w'',Below w8.heap.size w8 w'→But3 w' w'' mb gb gf→Memo w'' mb p.x.nd p.x.l X→BestAt w'' gb gf best'→(fun (w':World)=>w'.cell? ⟨w.heap.size,0,none⟩=some (.int .i64 (st.bits:Int))∧w'.cell? ⟨w.heap.size,3,none⟩=some (.slice SA sn sc)∧w'.cell? ⟨w.heap.size,4,none⟩=some (.slice TA tn tc)∧w'.cell? ⟨b,8,none⟩=some (.slice (some ad) p.x.m p.x.d)∧w'.cell? ⟨(ad.add (j * 7)).block,(ad.add (j * 7)).off + 3,none⟩=some (.int .i64 q.service)) w'':=fun w' w'' h h1 h2 h3=>hmk0 w'' best' (hSo w' w'' h h1 h2 h3).1 (hSo w' w'' h h1 h2 h3).2.2.1
          have hSa:∀ (w':World) (o':Obj),(fun (w':World)=>w'.cell? ⟨w.heap.size,0,none⟩=some (.int .i64 (st.bits:Int))∧w'.cell? ⟨w.heap.size,3,none⟩=some (.slice SA sn sc)∧w'.cell? ⟨w.heap.size,4,none⟩=some (.slice TA tn tc)∧w'.cell? ⟨b,8,none⟩=some (.slice (some ad) p.x.m p.x.d)∧w'.cell? ⟨(ad.add (j * 7)).block,(ad.add (j * 7)).off + 3,none⟩=some (.int .i64 q.service)) w'→(fun (w':World)=>w'.cell? ⟨w.heap.size,0,none⟩=some (.int .i64 (st.bits:Int))∧w'.cell? ⟨w.heap.size,3,none⟩=some (.slice SA sn sc)∧w'.cell? ⟨w.heap.size,4,none⟩=some (.slice TA tn tc)∧w'.cell? ⟨b,8,none⟩=some (.slice (some ad) p.x.m p.x.d)∧w'.cell? ⟨(ad.add (j * 7)).block,(ad.add (j * 7)).off + 3,none⟩=some (.int .i64 q.service)) (w'.alloc o'):=fun w' o' h=>by
           have hx:Ext w' (w'.alloc o'):=Ext.below ((Below.refl _ _).alloc (Nat.le_refl _) _)
           exact ⟨hx.cell h.1,hx.cell h.2.1,hx.cell h.2.2.1,hx.cell h.2.2.2.1,hx.cell h.2.2.2.2⟩
          have hSd:∀ (w':World),(fun (w':World)=>w'.cell? ⟨w.heap.size,0,none⟩=some (.int .i64 (st.bits:Int))∧w'.cell? ⟨w.heap.size,3,none⟩=some (.slice SA sn sc)∧w'.cell? ⟨w.heap.size,4,none⟩=some (.slice TA tn tc)∧w'.cell? ⟨b,8,none⟩=some (.slice (some ad) p.x.m p.x.d)∧w'.cell? ⟨(ad.add (j * 7)).block,(ad.add (j * 7)).off + 3,none⟩=some (.int .i64 q.service)) w'→(fun (w':World)=>w'.cell? ⟨w.heap.size,0,none⟩=some (.int .i64 (st.bits:Int))∧w'.cell? ⟨w.heap.size,3,none⟩=some (.slice SA sn sc)∧w'.cell? ⟨w.heap.size,4,none⟩=some (.slice TA tn tc)∧w'.cell? ⟨b,8,none⟩=some (.slice (some ad) p.x.m p.x.d)∧w'.cell? ⟨(ad.add (j * 7)).block,(ad.add (j * 7)).off + 3,none⟩=some (.int .i64 q.service)) w'.drew:=fun w' h=>h
          have hb0:Below w8.heap.size w8 w8:=Below.refl _ _
          have hDr:∀ w',Below w8.heap.size w8 w'→Below w8.heap.size w8 w'.drew:=fun w' h=>h.drew
          have S0:=hmk _ (Below.refl _ _)
          have S0d:=hmk _ hbd
          have k2:(0:Int)≤(j:Int):=by omega
          have k3:(j:Int) < (p.x.m:Int):=by have:=(hel.lt (hW8.pat hpp)).2;omega
          have hsn6:sn≤1000000:=by omega
          have htn6:tn≤1000000:=by omega
          clear hmm hbest' IH hgo HON2 HOK HA hno hse hwt hwr
          go_wp2_with fail
          go_region_held3 (fun (w':World)=>w'.cell? ⟨w.heap.size,0,none⟩=some (.int .i64 (st.bits:Int))∧w'.cell? ⟨w.heap.size,3,none⟩=some (.slice SA sn sc)∧w'.cell? ⟨w.heap.size,4,none⟩=some (.slice TA tn tc)∧w'.cell? ⟨b,8,none⟩=some (.slice (some ad) p.x.m p.x.d)∧w'.cell? ⟨(ad.add (j * 7)).block,(ad.add (j * 7)).off + 3,none⟩=some (.int .i64 q.service))
           (first | with_reducible exact S6 | with_reducible exact S5 | with_reducible exact S4 | with_reducible exact S3 | with_reducible exact S2 | with_reducible exact S1 | with_reducible exact S0d | with_reducible exact S0 | with_reducible exact hSd _ (hSa _ _ S0) | with_reducible exact hSd _ (hSa _ _ (hSa _ _ S0)) | with_reducible exact hSa _ _ S1 | with_reducible exact hSa _ _ (hSa _ _ S1) | with_reducible exact hSa _ _ S2 | with_reducible exact hSa _ _ (hSa _ _ S2) | with_reducible exact hSa _ _ S3 | with_reducible exact hSa _ _ S4 | fail)
           (first
            | (go_at_call 142;refine (node_any b mb p k j q _ ((hW8.below ?_).pat hpp) hel).mono ?_;(first | with_reducible exact hbd | with_reducible exact hDr _ (hAl _ _ hb0) | with_reducible exact hDr _ (hAl _ _ (hAl _ _ hb0)));rintro e w1 ⟨rfl,hbn1⟩;have hb1:Below w8.heap.size w8 w1:=bel (by (first | with_reducible exact hbd | with_reducible exact hDr _ (hAl _ _ hb0) | with_reducible exact hDr _ (hAl _ _ (hAl _ _ hb0)))) hbn1;have S1:=hmk _ hb1;(first | (with_reducible (have hL1:=blk_below hbn1 (drew_fact (heap_alloc_at _ (.cells #[.int .i64 (j:Int)] 3) _ (World.size_alloc _ _).symm)))) | (with_reducible (have hL1:=blk_below hbn1 (drew_fact (heap_alloc_new _ (.cells #[.int .i64 (j:Int)] 3))))) | (with_reducible (have hL1:=blk_below hbn1 (drew_fact (blk_alloc (heap_alloc_new _ (.cells #[.int .i64 (j:Int)] 3)) (.cells #[.int .i64 t] 3))))) | skip);(first | (with_reducible (have hL2:=blk_below hbn1 (drew_fact (heap_alloc_at _ (.cells #[.int .i64 t] 3) _ (World.size_alloc _ _).symm)))) | (with_reducible (have hL2:=blk_below hbn1 (drew_fact (heap_alloc_new _ (.cells #[.int .i64 t] 3))))) | (with_reducible (have hL2:=blk_below hbn1 (drew_fact (blk_alloc (heap_alloc_new _ (.cells #[.int .i64 t] 3)) (.cells #[.int .i64 (j:Int)] 3))))) | skip))
            | (go_at_call_of 109 SA;refine (clone_own SA sn sc st.stops _ (hS8.stops.below ?_) hsn6).mono ?_;(first | with_reducible exact hb1 | with_reducible exact hAl _ _ hb1 | with_reducible exact hAl _ _ (hAl _ _ hb1));rintro e w2 ⟨⟨v2,rfl,hown2⟩,hbn2⟩;have hb2:Below w8.heap.size w8 w2:=bel (by (first | with_reducible exact hb1 | with_reducible exact hAl _ _ hb1 | with_reducible exact hAl _ _ (hAl _ _ hb1))) hbn2;have hs2:=below_at (w:=w8) (by (first | with_reducible exact hb1 | with_reducible exact hAl _ _ hb1 | with_reducible exact hAl _ _ (hAl _ _ hb1))) hbn2;have S2:=hmk _ hb2;have hC2:=hown2.lt;(first | (with_reducible (have hLW:=lit_at hbn2 hL2;have hL2:=blk_below hbn2 hLW)) | (with_reducible (have hLW:=lit_at hbn2 (blk_alloc hL2 _);have hL2:=blk_below hbn2 hLW)) | (with_reducible (have hLW:=lit_at hbn2 (heap_alloc_at _ (.cells #[.int .i64 t] 3) _ (World.size_alloc _ _).symm);have hL2:=blk_below hbn2 hLW)) | (with_reducible (have hLW:=lit_at hbn2 (heap_alloc_new _ (.cells #[.int .i64 t] 3));have hL2:=blk_below hbn2 hLW)) | (with_reducible (have hLW:=lit_at hbn2 (blk_alloc (heap_alloc_new _ (.cells #[.int .i64 t] 3)) (.cells #[.int .i64 (j:Int)] 3));have hL2:=blk_below hbn2 hLW)) | skip);(first | (with_reducible (have hL1:=blk_below hbn2 hL1)) | (with_reducible (have hL1:=blk_below hbn2 (blk_alloc hL1 _))) | (with_reducible (have hL1:=blk_below hbn2 (heap_alloc_at _ (.cells #[.int .i64 (j:Int)] 3) _ (World.size_alloc _ _).symm))) | (with_reducible (have hL1:=blk_below hbn2 (heap_alloc_new _ (.cells #[.int .i64 (j:Int)] 3)))) | (with_reducible (have hL1:=blk_below hbn2 (blk_alloc (heap_alloc_new _ (.cells #[.int .i64 (j:Int)] 3)) (.cells #[.int .i64 t] 3)))) | skip))
            | (have hown9:=hown2;clear hown2;refine step_app_two rfl (.tmp 161) (.tmp 163) rfl hown9 hbn2.size rfl _ (j:Int) rfl ?_ ?_ hsn6 ?_;(first | with_reducible exact Below.refl _ _ | with_reducible exact ((Below.refl _ _).alloc (Nat.le_refl _) _) | with_reducible exact bel ((Below.refl _ _).alloc (Nat.le_refl _) _) ((Below.refl _ _).alloc (Nat.le_refl _) _));(first | with_reducible exact hL1 | with_reducible exact (blk_alloc hL1 _) | with_reducible exact (heap_alloc_at _ (.cells #[.int .i64 (j:Int)] 3) _ (World.size_alloc _ _).symm) | with_reducible exact (heap_alloc_new _ (.cells #[.int .i64 (j:Int)] 3)) | with_reducible exact (blk_alloc (heap_alloc_new _ (.cells #[.int .i64 (j:Int)] 3)) (.cells #[.int .i64 t] 3)));intro A3 c3 w3 hI3 hA3 hgr3 hbb3;have hb3:Below w8.heap.size w8 w3:=Below.trans (by (first | with_reducible exact hb2 | with_reducible exact hAl _ _ hb2 | with_reducible exact hAl _ _ (hAl _ _ hb2))) (hbb3.mono hs2);have S3:=hmk _ hb3;(first | (with_reducible (have hL2:=(hbb3.block _ (lt_of_block hLW)).trans hL2)) | (with_reducible (have hL2:=(hbb3.block _ (lt_of_block hLW)).trans (blk_alloc hL2 _))) | (have hL2:=grow_blk hgr3 (heap_alloc_at _ (.cells #[.int .i64 t] 3) _ (World.size_alloc _ _).symm) (fun e=>by have h9:=(hC2 _ e.symm).2;first | omega | (simp only [World.size_alloc] at h9;omega))) | (have hL2:=grow_blk hgr3 (heap_alloc_new _ (.cells #[.int .i64 t] 3)) (fun e=>by have h9:=(hC2 _ e.symm).2;first | omega | (simp only [World.size_alloc] at h9;omega))) | (have hL2:=grow_blk hgr3 (blk_alloc (heap_alloc_new _ (.cells #[.int .i64 t] 3)) (.cells #[.int .i64 (j:Int)] 3)) (fun e=>by have h9:=(hC2 _ e.symm).2;first | omega | (simp only [World.size_alloc] at h9;omega))) | skip))
            | (go_at_call_of 109 TA;refine (clone_own TA tn tc st.times _ (hS8.times.below ?_) htn6).mono ?_;(first | with_reducible exact hb3 | with_reducible exact hAl _ _ hb3 | with_reducible exact hAl _ _ (hAl _ _ hb3));rintro e w4 ⟨⟨v4,rfl,hown4⟩,hbn4⟩;have hb4:Below w8.heap.size w8 w4:=bel (by (first | with_reducible exact hb3 | with_reducible exact hAl _ _ hb3 | with_reducible exact hAl _ _ (hAl _ _ hb3))) hbn4;have hs4:=below_at (w:=w8) (by (first | with_reducible exact hb3 | with_reducible exact hAl _ _ hb3 | with_reducible exact hAl _ _ (hAl _ _ hb3))) hbn4;have S4:=hmk _ hb4;have hI4:=ints_at hbn4 (by (first | with_reducible exact hI3 | with_reducible exact hI3.below ((Below.refl _ _).alloc (Nat.le_refl _) _)));(first | (with_reducible (have hL2:=blk_below hbn4 hL2)) | (with_reducible (have hL2:=blk_below hbn4 (blk_alloc hL2 _))) | (with_reducible (have hL2:=blk_below hbn4 (heap_alloc_at _ (.cells #[.int .i64 t] 3) _ (World.size_alloc _ _).symm))) | (with_reducible (have hL2:=blk_below hbn4 (heap_alloc_new _ (.cells #[.int .i64 t] 3)))) | (with_reducible (have hL2:=blk_below hbn4 (blk_alloc (heap_alloc_new _ (.cells #[.int .i64 t] 3)) (.cells #[.int .i64 (j:Int)] 3)))) | skip))
            | (have hown9:=hown4;clear hown4;refine step_app_two rfl (.tmp 167) (.tmp 169) rfl hown9 hbn4.size rfl _ t rfl ?_ ?_ htn6 ?_;(first | with_reducible exact Below.refl _ _ | with_reducible exact ((Below.refl _ _).alloc (Nat.le_refl _) _) | with_reducible exact bel ((Below.refl _ _).alloc (Nat.le_refl _) _) ((Below.refl _ _).alloc (Nat.le_refl _) _));(first | with_reducible exact hL2 | with_reducible exact (blk_alloc hL2 _) | with_reducible exact (heap_alloc_at _ (.cells #[.int .i64 t] 3) _ (World.size_alloc _ _).symm) | with_reducible exact (heap_alloc_new _ (.cells #[.int .i64 t] 3)) | with_reducible exact (blk_alloc (heap_alloc_new _ (.cells #[.int .i64 t] 3)) (.cells #[.int .i64 (j:Int)] 3)));intro A5 c5 w5 hI5 hA5 hgr5 hbb5;have hb5:Below w8.heap.size w8 w5:=Below.trans (by (first | with_reducible exact hb4 | with_reducible exact hAl _ _ hb4 | with_reducible exact hAl _ _ (hAl _ _ hb4))) (hbb5.mono hs4);have S5:=hmk _ hb5;have hI6:=hI4 _ (Below.trans (by (first | with_reducible exact hbn4 | with_reducible exact bel hbn4 ((Below.refl _ _).alloc (Nat.le_refl _) _))) hbb5))
            | (go_at_call 173;refine (CT A3 c3 A5 c5 w5 hb5 hI6 hI5 (fun ad e=>Nat.le_trans hs2 (hA3 ad e)) (fun ad e=>Nat.le_trans hs4 (hA5 ad e))).mono ?_;rintro e w6 ⟨rfl,hB6,hM6,hT6⟩;have hb5k:=hb5;have S6:=hmk2 _ _ hb5 hB6 hM6 hT6)
            | fail)
          all_goals (
           obtain ⟨hW9,hB9,hG9,hS9⟩:=hSo _ _ hb5 hB6 hM6 hT6
           clear S0 S0d hSa hSd hDr hb0 hmk hmk0 hmk2 hSo hAl CT
           go_wp2_with fail
           go_roundw
           case rel=>exact ⟨k + 1,best',by go_num,by omega,hW9,hB9,hG9,hS9,HG⟩
           case measure=>simp [intOf];omega)
      ·have HF:=Lib.hid (show K.seek p.x.nd p.x.l p.x.s p.x.r p.l (f + 1) st best=bk by
        rw [hgo.out,List.drop_of_length_le (by rw [←hpr.set.1];omega)];rfl)
       go_wp2_with fail
       first | refine bodyPost_ret (results_none rfl _ _ _) rfl ?_ | refine bodyPost_end (results_none rfl _ _ _) rfl ?_
       rw [HF.out]
       exact ⟨rfl,hBr,hWr.memo,hWr.best⟩
    ·obtain ⟨dn,hdn⟩:∃ dn:Nat,p.x.s.depot=(dn:Int):=⟨p.x.s.depot.toNat,by have:=(K.check_parts (K.ok31_parts hpc.ok).2.1).2.1;omega⟩
     have HDN:=Lib.hid hdn
     clear hdn
     have hdp:=(K.ok31_parts hpc.ok).2.2.1
     have hS3:∀ w',Ext w5 w'→(w'.cell? ⟨w.heap.size,0,none⟩=some (.int .i64 (st.bits:Int))∧w'.cell? ⟨w.heap.size,1,none⟩=some (.int .i64 st.a)∧w'.cell? ⟨b,3,none⟩=some (.int .i64 p.x.s.depot)):=fun w' h=>⟨h.cell hGc.cells.1,h.cell hGc.cells.2.1,h.cell hpc.blk.cells.2.2.2.1⟩
     have S0:=hS3 w5 (Ext.refl _)
     have S0d:=hS3 w5.drew (Ext.below (Below.refl w5.heap.size w5).drew)
     have hWd:=hWc.below (w':=w5.drew) (Below.refl _ _).drew
     have hpd:=hWd.pat hpp
     have CW:=wayd_any b mb p st.a dn st.bits w5.drew hpd hX5 (by omega) hS.a0 HDN.out hdp hwt
     go_wp2_with fail
     go_region_held3 (fun w'=>(w'.cell? ⟨w.heap.size,0,none⟩=some (.int .i64 (st.bits:Int))∧w'.cell? ⟨w.heap.size,1,none⟩=some (.int .i64 st.a)∧w'.cell? ⟨b,3,none⟩=some (.int .i64 p.x.s.depot)))
      (first | assumption | exact S0 | exact S0d)
      (first
       | (go_at_call 141;refine CW.mono ?_;rintro e w6 ⟨rfl,hW⟩;have hx6:=(Ext.below (w':=w5.drew) (Below.refl w5.heap.size w5).drew).trans (hW.ext hpd);have S6:=hS3 _ hx6)
       | fail)
     obtain ⟨hy0,hy1⟩:=K.way_bd p.x.nd p.x.l st.a (T.weight p.x.s p.x.r (K.part p.l st.bits)) p.x.s.depot
     have HS:=Lib.hid (show K.seek p.x.nd p.x.l p.x.s p.x.r p.l (f + 1) st best=K.home p.x.nd p.x.l p.x.s p.x.r p.l st best by
      rw [K.seek,if_neg (by rw [HL.out];simp),if_pos (by have h1:(st.bits:Int)=(al:Int):=(by simpa using HZ.out);rw [←hpc.set.1,←HN.out,←HAL.out];omega)])
     obtain ⟨y,hy⟩:∃ y,y=K.way p.x.nd p.x.l st.a (T.weight p.x.s p.x.r (K.part p.l st.bits)) p.x.s.depot:=⟨_,rfl⟩
     have HH:=Lib.hid (show K.home p.x.nd p.x.l p.x.s p.x.r p.l st best=if y ≠ -1∧st.t + y≤p.x.s.end_∧K.better best (st.t + y)=true then some ⟨st.stops,st.times,st.t + y⟩ else best by unfold K.home;rw [←hy])
     rw [←hy] at hy0 hy1 ⊢
     have hW6:=hWd.went hpp hW
     have hB6:But3 w w6 mb gb gf:=(hB5.below (Below.refl _ _).drew).trans (But3.of hW.1)
     have hG6:StBlk w6 w.heap.size st SA sn sc TA tn tc:=hx6.cells _ _ _ _ hGc
     have hS6:=hS5.ext hx6
     have hX6:∀ g,X g→g < w6.heap.size:=fun g hg=>Nat.lt_of_lt_of_le (hX g hg) hB6.size
     clear hy CW S0 S0d S6 hS3 hx6 hW hWd hpd hGc hWc hpc hX5 hB5 hS5 HDN hdp hwt HZ HL hw1 hw2 hw3 hw4
     have hp6:=hW6.pat hpp
     obtain ⟨A0,n0,c0,A1,n1,c1,e0,hT,hTb⟩:=hW6.best.blk
     obtain ⟨hm,hhm⟩:∃ hm:Bool,hm=decide (y ≠ -1∧st.t + y≤p.x.s.end_∧K.better best (st.t + y)=true):=⟨_,rfl⟩
     have hwr:IntKind.i64.wrap (st.t + y)=st.t + y:=IntWalk.i64_in _ (by omega)
     obtain ⟨z8,hz8⟩:∃ z8,(y != -1)=z8:=⟨_,rfl⟩
     rw [hz8]
     go_wp2_with fail
     go_cut [81] from 52 to 81 (fun v81 wc=>v81=.bool hm∧Below w6.heap.size w6 wc)
     case first =>
      have F0:=Beh.cell (blk_cell hW6.best.found 0 (.bool best.isSome) rfl)
      have G2:=Beh.cell hG6.cells.2.2.1
      have U3:=Beh.cell hT.cells.2.2.2
      have P5:=Beh.cell hp6.blk.cells.2.2.2.2.2.1
      cases z8
      ·have hy:y=-1:=by simpa using hz8
       clear hy0 hy1 hz8
       refine reg_beh (by kernel_rfl) (by kernel_rfl) ?_
       repeat (go_big_quiet_step (fail))
       refine wpQuiet_nil ?_
       rintro w5 ⟨⟨_,b45⟩,rfl⟩
       go_wp2_with fail
       go_meet
       case rel=>exact ⟨by rw [hhm];simp [hy],b45⟩
      cases q1:decide (st.t + y≤p.x.s.end_)
      ·have hq1:¬ st.t + y≤p.x.s.end_:=of_decide_eq_false q1
       refine reg_beh (by kernel_rfl) (by kernel_rfl) ?_
       repeat (go_big_quiet_step (fail))
       refine wpQuiet_nil ?_
       rintro w5 ⟨⟨_,b45⟩,rfl⟩
       go_wp2_with fail
       go_meet
       case rel=>exact ⟨by rw [hhm];simp;omega,b45⟩
      have hq0:y ≠ -1:=by simpa using hz8
      clear hz8
      have hq1:st.t + y≤p.x.s.end_:=of_decide_eq_true q1
      obtain ⟨z,hz⟩:∃ z,z=best.isSome:=⟨_,rfl⟩
      rw [←hz] at F0
      cases z
      ·have hbn:K.better best (st.t + y)=true:=by
        cases best with
        | none=>rfl
        | some bt=>cases hz
       clear hz
       refine reg_beh (by kernel_rfl) (by kernel_rfl) ?_
       repeat (go_big_quiet_step (fail))
       refine wpQuiet_nil ?_
       rintro w5 ⟨⟨_,b45⟩,rfl⟩
       go_wp2_with fail
       go_meet
       case rel=>exact ⟨by rw [hhm];simp [hq0,hq1,hbn],b45⟩
      ·have hbn:K.better best (st.t + y)=decide (st.t + y < e0):=by
        cases best with
        | none=>cases hz
        | some bt=>rw [(hTb bt rfl).2.2.1];rfl
       obtain ⟨q3,hq3⟩:∃ q3,q3=decide (st.t + y < e0):=⟨_,rfl⟩
       rw [←hq3] at hbn
       clear hz
       have hq3':=hq3.symm
       clear hq3
       refine reg_beh (by kernel_rfl) (by kernel_rfl) ?_
       repeat (go_big_quiet_step (fail))
       refine wpQuiet_nil ?_
       rintro w5 ⟨⟨_,b45⟩,rfl⟩
       go_wp2_with fail
       go_meet
       case rel=>exact ⟨by rw [hhm];simp [hq0,hq1,hbn],b45⟩
     case rest =>
      obtain ⟨rfl,hbc⟩:=hcut
      have hW7:=hW6.below hbc
      have hB7:=hB6.below hbc
      have hG7:StBlk wc w.heap.size st SA sn sc TA tn tc:=blk_below hbc hG6
      have hS7:=hS6.ext (Ext.below hbc)
      have hX7:∀ g,X g→g < wc.heap.size:=fun g hg=>Nat.lt_of_lt_of_le (hX g hg) hB7.size
      have HHM:=Lib.hid hhm
      clear hT hTb hhm hp6 hX6 hS6 hG6 hB6 hW6 hbc hz8
      cases hm
      ·have HF:=Lib.hid (show K.seek p.x.nd p.x.l p.x.s p.x.r p.l (f + 1) st best=best by rw [HS.out,HH.out,if_neg (of_decide_eq_false HHM.out.symm)])
       go_wp2_with fail
       first | refine bodyPost_ret (results_none rfl _ _ _) rfl ?_ | refine bodyPost_end (results_none rfl _ _ _) rfl ?_
       rw [HF.out]
       exact ⟨rfl,hB7,hW7.memo,hW7.best⟩
      ·have HF:=Lib.hid (show K.seek p.x.nd p.x.l p.x.s p.x.r p.l (f + 1) st best=some ⟨st.stops,st.times,st.t + y⟩ by rw [HS.out,HH.out,if_pos (of_decide_eq_true HHM.out.symm)])
       have hHb:gb ≠ w.heap.size:=fun e=>by have:=hX gb hXb;omega
       have hHf:gf ≠ w.heap.size:=fun e=>by have:=hX gf hXf;omega
       have hne:=hW7.best.ne
       have hne1:(gb=gf)=False:=eq_false hne
       have hne2:(gf=gb)=False:=eq_false (Ne.symm hne)
       have hmk:∀ w',StBlk w' w.heap.size st SA sn sc TA tn tc→(fun w'=>w'.cell? ⟨w.heap.size,2,none⟩=some (.int .i64 st.t)∧w'.cell? ⟨w.heap.size,3,none⟩=some (.slice SA sn sc)∧w'.cell? ⟨w.heap.size,4,none⟩=some (.slice TA tn tc)) w':=fun w' h=>⟨h.cells.2.2.1,h.cells.2.2.2.1,h.cells.2.2.2.2⟩
       have hbd:Below wc.heap.size wc wc.drew:=(Below.refl _ _).drew
       have S0:=hmk _ hG7
       have S0d:=hmk _ (blk_below hbd hG7)
       have hId:=hS7.stops.below hbd
       have hJd:=hS7.times.below hbd
       have hSs:∀ (w':World) (g i:Nat) (v:Value),g ≠ w.heap.size→(fun w'=>w'.cell? ⟨w.heap.size,2,none⟩=some (.int .i64 st.t)∧w'.cell? ⟨w.heap.size,3,none⟩=some (.slice SA sn sc)∧w'.cell? ⟨w.heap.size,4,none⟩=some (.slice TA tn tc)) w'→(fun w'=>w'.cell? ⟨w.heap.size,2,none⟩=some (.int .i64 st.t)∧w'.cell? ⟨w.heap.size,3,none⟩=some (.slice SA sn sc)∧w'.cell? ⟨w.heap.size,4,none⟩=some (.slice TA tn tc)) (w'.setCell ⟨g,i,none⟩ v):=fun w' g i v hg h=>by
        refine ⟨?_,?_,?_⟩
        ·exact (World.cell?_of_block (Below.heap_setCell w' _ v _ (Ne.symm hg))).trans h.1
        ·exact (World.cell?_of_block (Below.heap_setCell w' _ v _ (Ne.symm hg))).trans h.2.1
        ·exact (World.cell?_of_block (Below.heap_setCell w' _ v _ (Ne.symm hg))).trans h.2.2
       go_wp2_with fail
       go_region_held3 (fun w'=>w'.cell? ⟨w.heap.size,2,none⟩=some (.int .i64 st.t)∧w'.cell? ⟨w.heap.size,3,none⟩=some (.slice SA sn sc)∧w'.cell? ⟨w.heap.size,4,none⟩=some (.slice TA tn tc))
        (first | with_reducible exact S9f | with_reducible exact S9g | with_reducible exact S9 | with_reducible exact S8 | with_reducible exact S0d | with_reducible exact S0 | fail)
        (first
         | (go_at_call_of 109 SA;refine (clone_own SA sn sc st.stops _ hId (by omega)).mono ?_;rintro e w8 ⟨⟨v8,rfl,hown8⟩,hb8⟩;have hb8':=bel hbd hb8;have S8:=hmk _ (blk_below hb8' hG7);have hJ8:=hJd.below hb8;obtain ⟨A8,c8,rfl,hR8,hlt8⟩:=own_form hown8)
         | (go_at_call_of 109 TA;refine (clone_own TA tn tc st.times _ hJ8 (by omega)).mono ?_;rintro e w9 ⟨⟨v9,rfl,hown9⟩,hb9⟩;have hb9':=bel hb8' hb9;have S9:=hmk _ (blk_below hb9' hG7);obtain ⟨A9,c9,rfl,hR9,hlt9⟩:=own_form hown9;have S9g:=hSs _ gb 3 (.int .i64 (st.t + y)) hHb (hSs _ gb 2 (.slice A9 tn c9) hHb (hSs _ gb 1 (.slice A8 sn c8) hHb (hSs _ gb 0 (.int .i64 0) hHb S9)));have S9f:=hSs _ gf 0 (.bool true) hHf S9g;have hW9:=hW7.below hb9';obtain ⟨B0,m0,d0,B1,m1,d1,e1,hT9,-⟩:=hW9.best.blk;obtain ⟨u0,u1,u2,u3⟩:=hT9.cells;have uf:=blk_free hT9;have f0:=blk_cell hW9.best.found 0 (.bool best.isSome) rfl;have ff:=blk_free hW9.best.found)
         | fail)
       have hX7b:=hX7 gb hXb
       have hX7f:=hX7 gf hXf
       have hs8:∀ ad,A8=some ad→gb < ad.block∧gf < ad.block:=fun ad e=>by
        have h1:=hlt8 ad.block (by rw [e];rfl)
        have h4:=hbd.size
        omega
       have hs9:∀ ad,A9=some ad→gb < ad.block∧gf < ad.block:=fun ad e=>by
        have h1:=hlt9 ad.block (by rw [e];rfl)
        have h4:=hb8'.size
        omega
       obtain ⟨hB9,hM9,hT9⟩:=hW9.stored hpp hgb hgf hXb hXf st.stops st.times (st.t + y) (c:=c8) (c':=c9) ⟨hS7.stops.1,hR8.below hb9⟩ ⟨hS7.times.1,hR9⟩ hs8 hs9 (own_capP hown8) (own_capP hown9)
       have hfin:Sought w _ mb gb gf p X (some ⟨st.stops,st.times,st.t + y⟩) (.returned (.tuple #[])):=⟨rfl,(hB7.below hb9').trans hB9,hM9,hT9⟩
       clear hSs S0 S0d S8 S9 S9f S9g u0 u1 u2 u3 f0
       go_wp2_with fail
       first | refine bodyPost_ret (results_none rfl _ _ _) rfl ?_ | refine bodyPost_end (results_none rfl _ _ _) rfl ?_
       rw [HF.out]
       exact hfin
namespace K
def bestOut (nd:Int) (l:List Ro) (s:S) (r:List Q) (v:List Int):Tr × Int :=
 if ok31 nd l s r v=true then (match best nd l s r v with | some t=>(t,0) | none=>(Tr.zero,4)) else (Tr.zero,1)
theorem bestOut_no {nd:Int} {l:List Ro} {s:S} {r:List Q} {v:List Int} (h:ok31 nd l s r v=false):bestOut nd l s r v=(Tr.zero,1):=by unfold bestOut;rw [h];rfl
theorem bestOut_none {nd:Int} {l:List Ro} {s:S} {r:List Q} {v:List Int} (h:ok31 nd l s r v=true) (h2:best nd l s r v=none):bestOut nd l s r v=(Tr.zero,4):=by unfold bestOut;rw [if_pos h,h2]
theorem bestOut_some {nd:Int} {l:List Ro} {s:S} {r:List Q} {v:List Int} {t:Tr} (h:ok31 nd l s r v=true) (h2:best nd l s r v=some t):bestOut nd l s r v=(t,0):=by unfold bestOut;rw [if_pos h,h2]
end K
def RetBest (w w':World) (y:K.Tr × Int) (e:Ending):Prop :=
 (∃ A n c A' n' c',e=.returned (.tuple #[.agg #[.int .i64 0,.slice A n c,.slice A' n' c',.int .i64 y.1.end_],.int .i64 y.2])∧Ints w' A n y.1.stops∧Ints w' A' n' y.1.times∧(∀ ad,A=some ad→w.heap.size≤ad.block)∧(∀ ad,A'=some ad→w.heap.size≤ad.block)∧n≤c∧n'≤c')∧Below w.heap.size w w'
theorem retBest_zero {w w':World} {er:Int} {y:K.Tr × Int} (h:y=(K.Tr.zero,er)) (hb:Below w.heap.size w w'):RetBest w w' y (.returned (.tuple #[.agg #[.int .i64 0,.slice none 0 0,.slice none 0 0,.int .i64 0],.int .i64 er])):=by
 subst h
 exact ⟨⟨none,0,0,none,0,0,rfl,ints_nil _,ints_nil _,fun ad e=>(nomatch e),fun ad e=>(nomatch e),Nat.le_refl _,Nat.le_refl _⟩,hb⟩
theorem But3.below_of {w w1 w2:World} {mb gb gf:Nat} (h:Below w.heap.size w w1) (h2:But3 w1 w2 mb gb gf) (h3:w.heap.size≤mb) (h4:w.heap.size≤gb) (h5:w.heap.size≤gf):Below w.heap.size w w2 :=
 ⟨h2.os.trans h.os,h2.tape.trans h.tape,h2.output.trans h.output,Nat.le_trans h.size h2.size,fun k hk=>(h2.block k (Nat.lt_of_lt_of_le hk h.size) (by omega) (by omega) (by omega)).trans (h.block k hk)⟩
set_option maxRecDepth 100000 in
set_option maxHeartbeats 16000000 in
theorem best_any (x:C) (V:Option Addr) (vn vc:Nat) (v:List Int) (w:World) (hx:At w x) (hV:Ints w V vn v) (hvc:vn≤vc) (hvn:vn≤1000000000) :
  Calls Tryz.prog 125 #[.agg #[.int .i64 x.nd,.slice x.A x.n x.c],.agg #[.int .i64 x.s.day,.int .i64 x.s.depot,.int .i64 x.s.start,.int .i64 x.s.end_,.int .i64 x.s.tare,.slice x.s.A x.s.n x.s.c],.slice x.B x.m x.d,.slice V vn vc] w fun e w'=>RetBest w w' (K.bestOut x.nd x.l x.s x.r v) e:=by
 obtain ⟨w0,hw0⟩:∃ w0:World,w0=((w.alloc (.cells #[.int .i64 x.nd,.slice x.A x.n x.c] 24)).alloc (.cells #[.int .i64 x.s.day,.int .i64 x.s.depot,.int .i64 x.s.start,.int .i64 x.s.end_,.int .i64 x.s.tare,.slice x.s.A x.s.n x.s.c] 63)).alloc (.cells #[.int .i64 0,.slice none 0 0,.slice none 0 0,.int .i64 0] 80):=⟨_,rfl⟩
 have b0:Below w.heap.size w w0:=by rw [hw0];exact bel (bel ((Below.refl _ _).alloc (Nat.le_refl _) _) ((Below.refl _ _).alloc (Nat.le_refl _) _)) ((Below.refl _ _).alloc (Nat.le_refl _) _)
 have z1:=World.size_alloc w (.cells #[.int .i64 x.nd,.slice x.A x.n x.c] 24)
 have z2:=World.size_alloc (w.alloc (.cells #[.int .i64 x.nd,.slice x.A x.n x.c] 24)) (.cells #[.int .i64 x.s.day,.int .i64 x.s.depot,.int .i64 x.s.start,.int .i64 x.s.end_,.int .i64 x.s.tare,.slice x.s.A x.s.n x.s.c] 63)
 have hR:TrBlk w0 (w.heap.size + 1 + 1) (.slice none 0 0) (.slice none 0 0) 0:=by rw [hw0];exact heap_alloc_at _ _ _ (by rw [z2,z1])
 have hS:Shf w0 (w.heap.size + 1) x.s:=by
  have h:=(Shf.new (w.alloc (.cells #[.int .i64 x.nd,.slice x.A x.n x.c] 24)) x.s).below ((Below.refl _ _).alloc (Nat.le_refl _) (.cells #[.int .i64 0,.slice none 0 0,.slice none 0 0,.int .i64 0] 80))
  rw [z1] at h
  rw [hw0];exact h
 have hN:Net w0 w.heap.size x.nd x.A x.n x.c:=by
  rw [hw0]
  exact (Net.new w x.nd x.A x.n x.c).below (bel ((Below.refl _ _).alloc (Nat.le_refl _) _) ((Below.refl _ _).alloc (Nat.le_refl _) _))
 have p0:=hN.c0
 have p1:=hN.c1
 obtain ⟨s0,s1,s2,s3,s4,s5⟩:=hS.cells
 rw [hw0] at p0 p1 s0 s1 s2 s3 s4 s5
 go_enter Tryz.func125,Tryz.ntmps125
 go_wp2_with fail
 rw [←hw0]
 refine (planned_any x V vn vc v _ (hx.below b0) (hV.below b0) hvc hvn).mono ?_
 rintro e w1 ⟨hret,b1⟩
 have hb:=bel b0 b1
 have hsz:=b0.size
 have hR0:=lt_of_block hR
 have hR1:=hR.below b1 hR0
 have hS1:=hS.below b1
 clear p0 p1 s0 s1 s2 s3 s4 s5 hw0 z1 z2 hR hS hN
 rcases hret with ⟨hok,rfl⟩ | ⟨b,mb,rfl,hbb,hbm,hP⟩
 ·have HX:=Lib.hid (K.bestOut_no hok)
  clear hok
  obtain ⟨r0,r1,r2,r3⟩:=hR1.cells
  have f0:=hR1.free 0
  have f1:=hR1.free 1
  have f2:=hR1.free 2
  have f3:=hR1.free 3
  go_wp2_with fail
  refine bodyPost_ret_by (v:=.tuple #[.agg #[.int .i64 0,.slice none 0 0,.slice none 0 0,.int .i64 0],.int .i64 1]) ?_ rfl ?_
  ·obtain ⟨z0,z1,z2,z3⟩:=(hR1.set (.slice none 0 0) (.slice none 0 0) 0).cells
   rw [results_cell_tmp rfl]
   simp [go_sem,z0,z1,z2,z3]
  ·exact retBest_zero HX.out (below_set4 hb (by omega) _ _ _ _)
 ·obtain ⟨gb,hgb⟩:∃ gb,gb=w1.heap.size:=⟨_,rfl⟩
  obtain ⟨gf,hgf⟩:∃ gf,gf=w1.heap.size + 1:=⟨_,rfl⟩
  have hpp:=hP (fun g=>g=gb∨g=gf)
  clear hP
  have hok:K.ok31 x.nd x.l x.s x.r v=true:=hpp.ok
  obtain ⟨hne,hck,hdp,hrq,hl6,hgo⟩:=K.ok31_parts hok
  obtain ⟨-,⟨d0,d1⟩,st0,st1,en1⟩:=K.check_parts hck
  obtain ⟨w2,hw2⟩:∃ w2,w2=(w1.alloc (.cells #[.int .i64 0,.slice none 0 0,.slice none 0 0,.int .i64 0] 80)).alloc (.cells #[.bool false] 4):=⟨_,rfl⟩
  have hza:=World.size_alloc w1 (.cells #[.int .i64 0,.slice none 0 0,.slice none 0 0,.int .i64 0] 80)
  have b12:Below w1.heap.size w1 w2:=by rw [hw2];exact bel ((Below.refl _ _).alloc (Nat.le_refl _) _) ((Below.refl _ _).alloc (Nat.le_refl _) _)
  have hB2:BestAt w2 gb gf none:=⟨by rw [hw2,hgf];exact heap_alloc_at _ _ _ hza.symm,none,0,0,none,0,0,0,by rw [hw2,hgb];exact blk_alloc (heap_alloc_new _ _) _,fun b e=>(nomatch e)⟩
  have hz2:w2.heap.size=w1.heap.size + 1 + 1:=by rw [hw2,World.size_alloc,hza]
  have hSA:SAt w1 w2 mb gb gf ⟨x,V,vn,vc,v⟩ (fun g=>g=gb∨g=gf) none:=⟨Ext.below b12,hpp.memo.below b12,hB2⟩
  have CT:Calls Tryz.prog 173 #[.pointer (some ⟨b,0,none⟩),.agg #[.int .i64 0,.int .i64 x.s.depot,.int .i64 x.s.start,.slice none 0 0,.slice none 0 0],.pointer (some ⟨gb,0,none⟩),.pointer (some ⟨gf,0,none⟩)] w2
    fun e w'=>Sought w2 w' mb gb gf ⟨x,V,vn,vc,v⟩ (fun g=>g=gb∨g=gf) (K.best x.nd x.l x.s x.r v) e :=
   try_any b mb gb gf ⟨x,V,vn,vc,v⟩ w1 hpp (by omega) (by omega) (.inl rfl) (.inr rfl) (2 ^ v.length) ⟨0,x.s.depot,x.s.start,[],[]⟩ none none 0 0 none 0 0 w2 hSA (fun g hg=>by omega)
    ⟨ints_nil _,ints_nil _,fun ad e=>(nomatch e),fun ad e=>(nomatch e),Nat.two_pow_pos _,Nat.le_refl _,rfl,⟨d0,hdp⟩,⟨st0,by show x.s.start≤1000000;omega⟩⟩ (by
     have h9:(⟨x,V,vn,vc,v⟩:PS).n=v.length:=hV.1
     rw [h9];exact Nat.le_add_left _ _)
  have hR2:=hR1.below b12 (lt_of_block hR1)
  have hS2:=hS1.below b12
  obtain ⟨s0,s1,s2,s3,s4,s5⟩:=hS2.cells
  have HOK:=Lib.hid hok
  have hRl:=lt_of_block hR1
  have hgbl:w.heap.size + 1 + 1 < gb:=by omega
  clear hok hne hck hdp hrq hl6 hgo d0 d1 st0 st1 en1 hB2 hza hR1 hS1
  rw [hw2,hgb,hgf] at CT
  rw [hw2] at s0 s1 s2 s3 s4 s5
  go_wp2_with fail
  refine CT.mono ?_
  rw [←hw2,←hgf,←hgb]
  rintro e w3 ⟨rfl,hB3,hM3,hT3⟩
  have hR3:TrBlk w3 (w.heap.size + 1 + 1) (.slice none 0 0) (.slice none 0 0) 0:=(hB3.block _ (by omega) (by omega) (by omega) (by omega)).trans hR2
  have hb3:Below w.heap.size w w3:=But3.below_of (bel hb b12) hB3 (by omega) (by omega) (by omega)
  clear CT s0 s1 s2 s3 s4 s5 hS2 hR2 hw2 hgb hgf hSA hpp
  obtain ⟨A0,n0,c0,A1,n1,c1,e0,hT,hTb⟩:=hT3.blk
  have ff:=blk_cell hT3.found 0 _ rfl
  obtain ⟨r0,r1,r2,r3⟩:=hR3.cells
  have f0:=hR3.free 0
  have f1:=hR3.free 1
  have f2:=hR3.free 2
  have f3:=hR3.free 3
  cases hbst:K.best x.nd x.l x.s x.r v with
  | none =>
   have HX:=Lib.hid (K.bestOut_none HOK.out hbst)
   rw [hbst] at ff
   clear hTb hbst
   go_wp2_with fail
   refine bodyPost_ret_by (v:=.tuple #[.agg #[.int .i64 0,.slice none 0 0,.slice none 0 0,.int .i64 0],.int .i64 4]) ?_ rfl ?_
   ·obtain ⟨z0,z1,z2,z3⟩:=(hR3.set (.slice none 0 0) (.slice none 0 0) 0).cells
    rw [results_cell_tmp rfl]
    simp [go_sem,z0,z1,z2,z3]
   ·exact retBest_zero HX.out (below_set4 hb3 (by omega) _ _ _ _)
  | some bt =>
   have HX:=Lib.hid (K.bestOut_some HOK.out hbst)
   obtain ⟨hI,hJ,he,hA,hA',hk0,hk1⟩:=hTb bt hbst
   subst he
   rw [hbst] at ff
   clear hTb hbst
   obtain ⟨t0,t1,t2,t3⟩:=hT.cells
   go_wp2_with fail
   refine bodyPost_ret_by (v:=.tuple #[.agg #[.int .i64 0,.slice A0 n0 c0,.slice A1 n1 c1,.int .i64 bt.end_],.int .i64 0]) ?_ rfl ?_
   ·obtain ⟨z0,z1,z2,z3⟩:=(hR3.set (.slice A0 n0 c0) (.slice A1 n1 c1) bt.end_).cells
    rw [results_cell_tmp rfl]
    simp [go_sem,z0,z1,z2,z3]
   ·rw [HX.out]
    have hne1:∀ ad,A0=some ad→ad.block ≠ w.heap.size + 1 + 1:=fun ad e=>by have:=hA ad e;omega
    have hne2:∀ ad,A1=some ad→ad.block ≠ w.heap.size + 1 + 1:=fun ad e=>by have:=hA' ad e;omega
    exact ⟨⟨A0,n0,c0,A1,n1,c1,rfl,(((hI.set _ hne1).set _ hne1).set _ hne1).set _ hne1,(((hJ.set _ hne2).set _ hne2).set _ hne2).set _ hne2,fun ad e=>(by have:=hA ad e;omega),fun ad e=>(by have:=hA' ad e;omega),hk0,hk1⟩,below_set4 hb3 (by omega) _ _ _ _⟩
end Go.Proofs.YtippdjmpkafifaaGreat
