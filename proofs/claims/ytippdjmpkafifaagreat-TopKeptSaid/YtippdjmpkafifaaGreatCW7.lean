import Derived.Test.YtippdjmpkafifaaGreatCW6
import Derived.Test.YtippdjmpkafifaaGreatCW4
import Derived.Test.YtippdjmpkafifaaGreatCW5
namespace Go.Proofs.YtippdjmpkafifaaGreat
open Go.RowKit
theorem Lb.eq_iff {a b:Lb}:a=b ↔ a.set=b.set∧a.last=b.last∧a.time=b.time:=by
 cases a;cases b;simp
instance:DecidableEq Lb:=fun _ _=>decidable_of_iff _ Lb.eq_iff.symm
theorem take_eq_nextl {la lb:List Lb} {k:Nat} {x y:Lb} (hx:la[k]? = some x) (hy:lb[k]? = some y) (h:la.take k=lb.take k):la.take (k + 1)=lb.take (k + 1) ↔ x=y:=by
 rw [take_snoc hx,take_snoc hy,h]
 simp
set_option maxHeartbeats 4000000 in
theorem eqlab_any (A B:Option Addr) (n m c d:Nat) (la lb:List Lb) (w:World) (hla:Labs w A n la) (hlb:Labs w B m lb) (hn:n≤1000000000) (hm:m≤1000000000) :
  Calls Tryz.prog 138 #[.slice A n c,.slice B m d] w fun e w'=>e=.returned (.bool (decide (la=lb)))∧Below w.heap.size w w':=by
 by_cases hnm:n=m
 ·obtain rfl:=hnm
  go_enter Tryz.func138,Tryz.ntmps138
  go_wp2_with fail
  go_loopw [13] (fun vi wr=>∃ k:Nat,vi=.int .i64 k∧k≤n∧Hid (la.take k=lb.take k)∧Below w.heap.size w wr) (fun vi _=>n - (intOf vi).toNat)
  case atStart=>exact ⟨0,rfl,by omega,rfl,Below.refl _ _⟩
  case round =>
   obtain ⟨k,rfl,hk,hr,hb⟩:=hrel
   by_cases hlt:k < n
   ·obtain ⟨ad,o,rfl,hg,c0,c1,c2⟩:=Labs.at_ (Lst.below hla hb) hlt
    obtain ⟨ad2,o2,rfl,hg2,d0,d1,d2⟩:=Labs.at_ (Lst.below hlb hb) hlt
    have HN:=Lib.hid (take_eq_nextl hg hg2 hr.out)
    have k0:(0:Int)≤(k:Int):=by omega
    have k1:(k:Int) < (n:Int):=by omega
    clear hg hg2
    cases e1:(o.set == o2.set)
    ·have HX:=Lib.hid (fun h=>(show ¬ o=o2 from fun e=>by rw [e] at e1;simp at e1) (HN.out.1 h))
     go_wp2_with fail
     go_quiet (fail)
     go_wp2_with fail
     go_ret
     exact ⟨ret_b (Eq.symm (decide_eq_false (fun h=>HX.out (by rw [h])))),below_drewN hb _⟩
    cases e2:(o.last == o2.last)
    ·have HX:=Lib.hid (fun h=>(show ¬ o=o2 from fun e=>by rw [e] at e2;simp at e2) (HN.out.1 h))
     go_wp2_with fail
     go_quiet (fail)
     go_wp2_with fail
     go_ret
     exact ⟨ret_b (Eq.symm (decide_eq_false (fun h=>HX.out (by rw [h])))),below_drewN hb _⟩
    cases e3:(o.time == o2.time)
    ·have HX:=Lib.hid (fun h=>(show ¬ o=o2 from fun e=>by rw [e] at e3;simp at e3) (HN.out.1 h))
     go_wp2_with fail
     go_quiet (fail)
     go_wp2_with fail
     go_ret
     exact ⟨ret_b (Eq.symm (decide_eq_false (fun h=>HX.out (by rw [h])))),below_drewN hb _⟩
    have HX:=Lib.hid (HN.out.2 (Lb.eq_iff.2 ⟨by simpa using e1,by simpa using e2,by simpa using e3⟩))
    go_wp2_with fail
    go_quiet (fail)
    go_wp2_with fail
    go_roundw
    case rel=>exact ⟨k + 1,by go_num,by omega,HX.out,below_drewN hb _⟩
    case measure=>simp [intOf];omega
   ·have HX:=Lib.hid (show la=lb by
     have h:=hr.out
     rw [List.take_of_length_le (by rw [←hla.1];omega),List.take_of_length_le (by rw [←hlb.1];omega)] at h
     exact h)
    go_wp2_with fail
    go_ret
    exact ⟨ret_b (Eq.symm (decide_eq_true HX.out)),hb⟩
 ·have HX:=Lib.hid (show ¬ la=lb from fun h=>hnm (by rw [hla.1,hlb.1,h]))
  have q1:(((n:Nat):Int) != ((m:Nat):Int))=true:=by simp;omega
  go_enter Tryz.func138,Tryz.ntmps138
  go_wp2_with fail
  go_ret
  exact ⟨ret_b (Eq.symm (decide_eq_false HX.out)),Below.refl _ _⟩
namespace K
def opens (y:Int) (en:Int) (all:Nat) (x:Lb):Bool:=(x.set == (all:Int)) && ((x.time != -1) && ((y != -1) && decide (x.time + y≤en)))
end K
theorem wayd_any (b mb:Nat) (p:PS) (fr:Int) (tn m:Nat) (w:World) {X:Nat→Prop} (hp:PAt w b mb p X) (hX:∀ g,X g→g < w.heap.size) (hm:m < 256) (hfr:0≤fr∧fr < p.x.nd) {d:Int} (hd:d=(tn:Int)) (hto:d < p.x.nd) (hwt:(Lit.int .i64 (T.weight p.x.s p.x.r (K.part p.l m))).wf=true) :
  Calls Tryz.prog 141 #[.pointer (some ⟨b,0,none⟩),.int .i64 fr,.int .i64 d,.int .i64 m] w fun e w'=>RetWay w w' b mb p X (K.way p.x.nd p.x.l fr (T.weight p.x.s p.x.r (K.part p.l m)) d) e:=by
 subst hd
 exact way_any b mb p fr tn m w hp hX hm hfr hto hwt
set_option maxRecDepth 100000 in
set_option maxHeartbeats 16000000 in
theorem blk1_any (b mb:Nat) (p:PS) (all:Nat) (x:Lb) (ga gp gs i j:Nat) (q:Q) (w:World) {X:Nat→Prop} (hp:PAt w b mb p X) (hX:∀ g,X g→g < w.heap.size)
  (ha:w.heap[ga]? = some (.cells #[.int .i64 (all:Int)] 3 (0,0))) (hpp:w.heap[gp]? = some (.cells #[.pointer (some ⟨b,0,none⟩)] 162 (0,0))) (hs:Shf w gs p.x.s)
  (hel:Elem p i j q) (hxl:x.last=(i:Int)) (hno:0≤q.node∧q.node < p.x.nd) (hall:all < 256) (ht:-1≤x.time∧x.time≤1000000) :
  Calls Tryz.prog 140 #[.agg #[.int .i64 x.set,.int .i64 x.last,.int .i64 x.time],.pointer (some ⟨ga,0,none⟩),.pointer (some ⟨gp,0,none⟩),.pointer (some ⟨gs,0,none⟩)] w
   fun e w'=>e=.returned (.bool (K.opens (K.way p.x.nd p.x.l q.node (T.weight p.x.s p.x.r (K.part p.l all)) p.x.s.depot) p.x.s.end_ all x))∧Went w w' b mb p X:=by
 obtain ⟨hne,hck,hdp,-⟩:=K.ok31_parts hp.ok
 obtain ⟨-,⟨d0,d1⟩,st0,st1,en1⟩:=K.check_parts hck
 have hl6:=(K.ok31_parts hp.ok).2.2.2.2.1
 have hwt:(Lit.int .i64 (T.weight p.x.s p.x.r (K.part p.l all))).wf=true:=T.weight_wf (by have:=K.part_len p.l all;omega)
 obtain ⟨dn,hdn⟩:∃ dn:Nat,p.x.s.depot=(dn:Int):=⟨p.x.s.depot.toNat,by omega⟩
 obtain ⟨w1,hw1⟩:∃ w1,w1=w.alloc (.cells #[.int .i64 x.set,.int .i64 (i:Int),.int .i64 x.time] 167):=⟨_,rfl⟩
 have b1:Below w.heap.size w w1:=by rw [hw1];exact (Below.refl _ _).alloc (Nat.le_refl _) _
 have hB:w1.heap[w.heap.size]? = some (.cells #[.int .i64 x.set,.int .i64 (i:Int),.int .i64 x.time] 167 (0,0)):=by rw [hw1];exact heap_alloc_new _ _
 have hp1:=hp.below b1
 have hS:∀ w',Ext w1 w'→w'.cell? ⟨gp,0,none⟩=some (.pointer (some ⟨b,0,none⟩))∧w'.cell? ⟨ga,0,none⟩=some (.int .i64 (all:Int))∧w'.cell? ⟨gs,1,none⟩=some (.int .i64 p.x.s.depot)∧w'.cell? ⟨gs,3,none⟩=some (.int .i64 p.x.s.end_)∧w'.cell? ⟨w.heap.size,0,none⟩=some (.int .i64 x.set)∧w'.cell? ⟨w.heap.size,1,none⟩=some (.int .i64 (i:Int))∧w'.cell? ⟨w.heap.size,2,none⟩=some (.int .i64 x.time):=fun w' h=>by
  have h2:=(Ext.below b1).trans h
  obtain ⟨s0,s1,s2,s3,s4,s5⟩:=hs.cells
  exact ⟨h2.cell (blk_cell hpp 0 _ rfl),h2.cell (blk_cell ha 0 _ rfl),h2.cell s1,h2.cell s3,h.cell (blk_cell hB 0 _ rfl),h.cell (blk_cell hB 1 _ rfl),h.cell (blk_cell hB 2 _ rfl)⟩
 have S0:=hS w1 (Ext.refl _)
 have S0d:=hS w1.drew (Ext.below (Below.refl w1.heap.size w1).drew)
 have CN:=node_any b mb p i j q w1.drew (hp1.below (Below.refl _ _).drew) hel
 obtain ⟨c0,c1,c2,c3,c4,c5,c6⟩:=S0
 rw [hw1] at c0 c1 c2 c3 c4 c5 c6
 obtain ⟨y,hy⟩:∃ y,y=K.way p.x.nd p.x.l q.node (T.weight p.x.s p.x.r (K.part p.l all)) p.x.s.depot:=⟨_,rfl⟩
 have hyb:=K.way_bd p.x.nd p.x.l q.node (T.weight p.x.s p.x.r (K.part p.l all)) p.x.s.depot
 rw [←hy] at hyb ⊢
 have HY:=Lib.hid hy
 have HDN:=Lib.hid hdn
 have hW1:=went_below hp b1
 rw [hxl]
 clear hy hne hck hdn
 go_enter Tryz.func140,Tryz.ntmps140
 cases e1:(x.set == (all:Int))
 ·have q1:(x.set != (all:Int))=true:=by simp [bne,e1]
  have HX:=Lib.hid (show K.opens y p.x.s.end_ all x=false by simp [K.opens,e1])
  clear e1
  go_wp2_with fail
  go_ret
  exact ⟨ret_b HX.out.symm,by rw [←hw1];exact hW1⟩
 have q1:(x.set != (all:Int))=false:=by simp [bne,e1]
 cases e2:(x.time == -1)
 rotate_left
 ·have HX:=Lib.hid (show K.opens y p.x.s.end_ all x=false by simp [K.opens,bne,e2])
  go_wp2_with fail
  go_ret
  exact ⟨ret_b HX.out.symm,by rw [←hw1];exact hW1⟩
 have HX:=Lib.hid (show K.opens y p.x.s.end_ all x=((y != -1) && decide (x.time + y≤p.x.s.end_)) by simp [K.opens,bne,e1,e2])
 go_wp2_with fail
 rw [←hw1]
 clear c0 c1 c2 c3 c4 c5 c6 hw1 e1 e2 q1
 have S0:=hS w1 (Ext.refl _)
 go_region_held3 (fun w'=>w'.cell? ⟨gp,0,none⟩=some (.pointer (some ⟨b,0,none⟩))∧w'.cell? ⟨ga,0,none⟩=some (.int .i64 (all:Int))∧w'.cell? ⟨gs,1,none⟩=some (.int .i64 p.x.s.depot)∧w'.cell? ⟨gs,3,none⟩=some (.int .i64 p.x.s.end_)∧w'.cell? ⟨w.heap.size,0,none⟩=some (.int .i64 x.set)∧w'.cell? ⟨w.heap.size,1,none⟩=some (.int .i64 (i:Int))∧w'.cell? ⟨w.heap.size,2,none⟩=some (.int .i64 x.time))
  (first | assumption | exact S0 | exact S0d)
  (first
   | (go_at_call 142;refine CN.mono ?_;rintro e w2 ⟨rfl,b2⟩;have hd2:Below w1.heap.size w1 w2:=bel (w1:=w1.drew) (Below.refl _ _).drew b2;have hp2:=hp1.below hd2;have S1:=hS w2 (Ext.below hd2))
   | (go_at_call 141;refine (wayd_any b mb p q.node dn all w2 hp2 (fun g hg=>Nat.lt_of_lt_of_le (hX g hg) (bel b1 hd2).size) hall hno HDN.out hdp hwt).mono ?_;rintro e w3 ⟨rfl,hW⟩;have hx3:=(Ext.below hd2).trans (hW.ext hp2);have S2:=hS w3 hx3)
   | fail)
 rw [←HY.out]
 have hW3:=(hW1.below hd2).trans hW
 obtain ⟨c0,c1,c2,c3,c4,c5,c6⟩:=S2
 have hwrap:IntKind.i64.wrap (x.time + y)=x.time + y:=IntWalk.i64_in _ (by omega)
 clear S0 S0d S1 hS CN
 cases e3:(y == -1)
 ·have q3:(y != -1)=true:=by simp [bne,e3]
  rw [q3] at HX
  go_wp2_with fail
  go_ret
  exact ⟨ret_b (by rw [HX.out];rfl),hW3⟩
 ·have q3:(y != -1)=false:=by simp [bne,e3]
  rw [q3] at HX
  go_wp2_with fail
  go_ret
  exact ⟨ret_b (by rw [HX.out];rfl),hW3⟩
namespace K
def opensAt (nd:Int) (l:List Ro) (s:S) (r:List Q) (v:List Int) (all:Nat) (x:Lb):Bool :=
 opens (way nd l (req r ((v[x.last.toNat]?).getD 0)).node (T.weight s r (part v all)) s.depot) s.end_ all x
end K
def LabOk (p:PS) (x:Lb):Prop:=∃ i j q,Elem p i j q∧x.last=(i:Int)∧(0≤q.node∧q.node < p.x.nd)∧(-1≤x.time∧x.time≤1000000)
set_option maxHeartbeats 4000000 in
theorem indexL (b mb:Nat) (p:PS) (all ga gp gs:Nat) (A:Option Addr) (n c:Nat) (l:List Lb) (w:World) {X:Nat→Prop} (hp:PAt w b mb p X) (hX:∀ g,X g→g < w.heap.size)
  (ha:w.heap[ga]? = some (.cells #[.int .i64 (all:Int)] 3 (0,0))) (hpp:w.heap[gp]? = some (.cells #[.pointer (some ⟨b,0,none⟩)] 162 (0,0))) (hs:Shf w gs p.x.s) (hall:all < 256)
  (hl:Labs w A n l) (hn:n≤1000000000) (hok:∀ x ∈ l,LabOk p x) :
  Calls Tryz.prog 189 #[.slice A n c,.func (.func 140) #[] #[.pointer (some ⟨ga,0,none⟩),.pointer (some ⟨gp,0,none⟩),.pointer (some ⟨gs,0,none⟩)]] w
   fun e w'=>(∃ i:Int,e=.returned (.int .i64 i)∧(decide (0≤i))=l.any (K.opensAt p.x.nd p.x.l p.x.s p.x.r p.l all))∧Went w w' b mb p X:=by
 go_enter Tryz.func189,Tryz.ntmps189
 go_wp2_with fail
 go_loopw [8] (fun vi wr=>∃ k:Nat,vi=.int .i64 k∧k≤n∧Hid (l.any (K.opensAt p.x.nd p.x.l p.x.s p.x.r p.l all)=(l.drop k).any (K.opensAt p.x.nd p.x.l p.x.s p.x.r p.l all))∧Went w wr b mb p X) (fun vi _=>n - (intOf vi).toNat)
 case atStart=>exact ⟨0,rfl,by omega,by show _=_;rw [List.drop_zero],went_below hp (Below.refl _ _)⟩
 case round =>
  obtain ⟨k,rfl,hk,hr,hW⟩:=hrel
  have hx:=hW.ext hp
  by_cases hlt:k < n
  ·obtain ⟨ad,x,rfl,hg,c0,c1,c2⟩:=Labs.at_ (Lst.ext hl hx) hlt
   obtain ⟨i,j,q,hel,hxl,hno,htb⟩:=hok x (List.mem_of_getElem? hg)
   have HS:=Lib.hid (drop_any (p:=K.opensAt p.x.nd p.x.l p.x.s p.x.r p.l all) hg)
   have HV:=Lib.hid (show K.opensAt p.x.nd p.x.l p.x.s p.x.r p.l all x=K.opens (K.way p.x.nd p.x.l q.node (T.weight p.x.s p.x.r (K.part p.l all)) p.x.s.depot) p.x.s.end_ all x by
    unfold K.opensAt;rw [hxl,Int.toNat_natCast,hel.set,Option.getD_some,K.req_get hel.req])
   have CB:=blk1_any b mb p all x ga gp gs i j q wr hW.2 (fun g hg=>Nat.lt_of_lt_of_le (hX g hg) hx.size) (hx.cells _ _ _ _ ha) (hx.cells _ _ _ _ hpp) (hx.cells _ _ _ _ hs) hel hxl hno hall htb
   rw [←HV.out] at CB
   obtain ⟨r9,hr9⟩:∃ r9,r9=K.opensAt p.x.nd p.x.l p.x.s p.x.r p.l all x:=⟨_,rfl⟩
   rw [←hr9] at CB
   have HR9:=Lib.hid hr9
   clear hg hr9 hxl
   go_wp2_with fail
   refine CB.mono ?_
   rintro e w1 ⟨rfl,hW1⟩
   have hW2:=hW.trans hW1
   clear CB
   cases r9
   ·go_wp2_with fail
    go_roundw
    case rel=>exact ⟨k + 1,by go_num,by omega,by show _=_;rw [hr.out,HS.out,←HR9.out];rfl,hW2⟩
    case measure=>simp [intOf];omega
   ·go_wp2_with fail
    go_ret
    exact ⟨⟨k,rfl,by rw [hr.out,HS.out,←HR9.out];simp⟩,hW2⟩
  ·have hd:l.drop k=[]:=List.drop_eq_nil_of_le (by rw [←hl.1];omega)
   have HD:=Lib.hid hd
   clear hd
   go_wp2_with fail
   go_ret
   exact ⟨⟨-1,rfl,by rw [hr.out,HD.out];rfl⟩,hW⟩
set_option maxHeartbeats 4000000 in
theorem containsL (b mb:Nat) (p:PS) (all ga gp gs:Nat) (A:Option Addr) (n c:Nat) (l:List Lb) (w:World) {X:Nat→Prop} (hp:PAt w b mb p X) (hX:∀ g,X g→g < w.heap.size)
  (ha:w.heap[ga]? = some (.cells #[.int .i64 (all:Int)] 3 (0,0))) (hpp:w.heap[gp]? = some (.cells #[.pointer (some ⟨b,0,none⟩)] 162 (0,0))) (hs:Shf w gs p.x.s) (hall:all < 256)
  (hl:Labs w A n l) (hn:n≤1000000000) (hok:∀ x ∈ l,LabOk p x) :
  Calls Tryz.prog 139 #[.slice A n c,.func (.func 140) #[] #[.pointer (some ⟨ga,0,none⟩),.pointer (some ⟨gp,0,none⟩),.pointer (some ⟨gs,0,none⟩)]] w
   fun e w'=>e=.returned (.bool (l.any (K.opensAt p.x.nd p.x.l p.x.s p.x.r p.l all)))∧Went w w' b mb p X:=by
 have CI:=indexL b mb p all ga gp gs A n c l w hp hX ha hpp hs hall hl hn hok
 clear ha hpp hs
 go_enter Tryz.func139,Tryz.ntmps139
 go_wp2_with fail
 refine CI.mono ?_
 rintro e w1 ⟨⟨i,rfl,hi⟩,hb1⟩
 go_wp2_with fail
 go_ret
 exact ⟨rfl,hb1⟩
namespace K
def blocks (nd:Int) (l:List Ro) (s:S) (r:List Q) (v:List Int) (b:List Lb):Bool :=
 ok31 nd l s r v && (!(v.length == 0) && (decide (b=labs nd l s r v) && !(b.any (opensAt nd l s r v (2 ^ v.length - 1)))))
end K
namespace K
theorem mem_rowLabs {m:Nat} {row:List Int} {x:Lb}:∀ {i:Nat},x ∈ rowLabs m row i→∃ k,k < i∧m.testBit k=true∧x=⟨m,k,(row[k]?).getD (-1)⟩
 | 0,h=>by simp [rowLabs] at h
 | i + 1,h=>by
  rw [rowLabs] at h
  rcases List.mem_append.1 h with h | h
  ·obtain ⟨k,hk,h2⟩:=mem_rowLabs h
   exact ⟨k,by omega,h2⟩
  ·by_cases hb:m.testBit i=true
   ·rw [if_pos hb] at h
    exact ⟨i,by omega,hb,List.mem_singleton.1 h⟩
   ·rw [if_neg hb] at h;cases h
theorem mem_tabLabs {n:Nat} {t:List (List Int)} {x:Lb}:∀ {M:Nat},x ∈ tabLabs n t M→∃ m,m < M∧x ∈ rowLabs m ((t[m]?).getD []) n
 | 0,h=>by simp [tabLabs] at h
 | M + 1,h=>by
  rw [tabLabs] at h
  rcases List.mem_append.1 h with h | h
  ·obtain ⟨m,hm,h2⟩:=mem_tabLabs h
   exact ⟨m,by omega,h2⟩
  ·exact ⟨M,by omega,h⟩
end K
theorem PAt.labs {w:World} {b mb:Nat} {p:PS} {X:Nat→Prop} (h:PAt w b mb p X):∀ x ∈ K.labs p.x.nd p.x.l p.x.s p.x.r p.l,LabOk p x:=by
 intro x hx
 unfold K.labs at hx
 rw [if_pos h.ok] at hx
 obtain ⟨m,hm,hx⟩:=K.mem_tabLabs hx
 obtain ⟨k,hk,-,rfl⟩:=K.mem_rowLabs hx
 obtain ⟨j,q,hel,hno,hse,-⟩:=h.elem (k:=k) (by rw [h.set.1];exact hk)
 refine ⟨k,j,q,hel,rfl,hno,?_⟩
 rw [K.table_at hm,Option.getD_some]
 have hsrv:∀ i ∈ p.l,0≤(K.req p.x.r i).service:=fun i hi=>by
  obtain ⟨k2,hk2⟩:=List.mem_iff_getElem?.1 hi
  obtain ⟨j2,q2,hel2,-,hse2,-⟩:=h.elem (k:=k2) (by rw [h.set.1];exact (List.getElem?_eq_some_iff.1 hk2).1)
  have h1:=hel2.set
  rw [hk2] at h1
  injection h1 with h1
  rw [h1,K.req_get hel2.req]
  exact hse2.1
 have hb:=K.rowOf_bd (nd:=p.x.nd) (l:=p.x.l) (s:=p.x.s) (r:=p.x.r) (v:=p.l) (t:=K.table p.x.nd p.x.l p.x.s p.x.r p.l m) (m:=m) hsrv
 have hkl:k < (K.rowOf p.x.nd p.x.l p.x.s p.x.r p.l (K.table p.x.nd p.x.l p.x.s p.x.r p.l m) m).length:=by rw [K.rowOf_len];exact hk
 rw [List.getElem?_eq_getElem hkl,Option.getD_some]
 exact hb _ (List.getElem_mem hkl)
theorem K.labs_len (nd:Int) (l:List Ro) (s:S) (r:List Q) (v:List Int):(K.labs nd l s r v).length≤1000:=by
 unfold K.labs
 split
 ·rename_i h
  have hl:=(K.ok31_parts h).2.2.2.2.1
  have h1:=K.tabLabs_len v.length (K.table nd l s r v (2 ^ v.length)) (2 ^ v.length)
  have h2:2 ^ v.length≤64:=Nat.pow_le_pow_right (n:=2) (by omega) hl
  have h3:2 ^ v.length * v.length≤64 * 6:=Nat.mul_le_mul h2 hl
  omega
 ·simp
set_option maxRecDepth 100000 in
set_option maxHeartbeats 16000000 in
theorem blocks_any (x:C) (sh:Int) (V:Option Addr) (vn vc:Nat) (v:List Int) (LA:Option Addr) (ln lc:Nat) (l:List Lb) (w:World) (hx:At w x) (hV:Ints w V vn v) (hvc:vn≤vc) (hvn:vn≤1000000000) (hL:Labs w LA ln l) (hln:ln≤1000000000) :
  Calls Tryz.prog 88 #[.agg #[.int .i64 x.nd,.slice x.A x.n x.c],.agg #[.int .i64 x.s.day,.int .i64 x.s.depot,.int .i64 x.s.start,.int .i64 x.s.end_,.int .i64 x.s.tare,.slice x.s.A x.s.n x.s.c],.slice x.B x.m x.d,.agg #[.int .i64 sh,.slice V vn vc,.slice LA ln lc]] w fun e w'=>e=.returned (.bool (K.blocks x.nd x.l x.s x.r v l))∧Below w.heap.size w w':=by
 obtain ⟨w1,hw1⟩:∃ w1:World,w1=w.alloc (.cells #[.int .i64 x.nd,.slice x.A x.n x.c] 24):=⟨_,rfl⟩
 obtain ⟨w2,hw2⟩:∃ w2:World,w2=w1.alloc (.cells #[.int .i64 x.s.day,.int .i64 x.s.depot,.int .i64 x.s.start,.int .i64 x.s.end_,.int .i64 x.s.tare,.slice x.s.A x.s.n x.s.c] 63):=⟨_,rfl⟩
 obtain ⟨w3,hw3⟩:∃ w3:World,w3=w2.alloc (.cells #[.int .i64 sh,.slice V vn vc,.slice LA ln lc] 90):=⟨_,rfl⟩
 have z1:w1.heap.size=w.heap.size + 1:=by rw [hw1];exact World.size_alloc _ _
 have z2:w2.heap.size=w.heap.size + 1 + 1:=by rw [hw2,World.size_alloc,z1]
 have b01:Below w.heap.size w w1:=by rw [hw1];exact (Below.refl _ _).alloc (Nat.le_refl _) _
 have b12:Below w1.heap.size w1 w2:=by rw [hw2];exact (Below.refl _ _).alloc (Nat.le_refl _) _
 have b23:Below w2.heap.size w2 w3:=by rw [hw3];exact (Below.refl _ _).alloc (Nat.le_refl _) _
 have hP:Net w3 w.heap.size x.nd x.A x.n x.c:=by
  have h1:Net w1 w.heap.size x.nd x.A x.n x.c:=by rw [hw1];exact Net.new _ _ _ _ _
  exact (h1.below b12).below b23
 have hS:Shf w3 (w.heap.size + 1) x.s:=by
  have h1:Shf w2 (w.heap.size + 1) x.s:=by rw [←z1,hw2];exact Shf.new _ _
  exact h1.below b23
 have hB:w3.heap[w.heap.size + 1 + 1]? = some (.cells #[.int .i64 sh,.slice V vn vc,.slice LA ln lc] 90 (0,0)):=by rw [←z2,hw3];exact heap_alloc_new _ _
 have b3:=bel (bel b01 b12) b23
 go_enter Tryz.func88,Tryz.ntmps88
 go_wp2_with fail
 rw [←hw1,←hw2,←hw3]
 clear hw1 hw2 hw3 z1 z2 b01 b12 b23
 refine (planned_any x V vn vc v _ (hx.below b3) (hV.below b3) hvc hvn).mono ?_
 rintro e w4 ⟨hret,b34⟩
 have hP:=hP.below b34
 have hS:=hS.below b34
 have hB:=blk_below b34 hB
 have hb:=bel b3 b34
 have hsz:=b3.size
 clear b3 b34
 rcases hret with ⟨hok,rfl⟩ | ⟨b,mb,rfl,hbb,hbm,hPl⟩
 ·have HX:=Lib.hid (show K.blocks x.nd x.l x.s x.r v l=false by simp [K.blocks,hok])
  clear hok
  go_wp2_with fail
  go_quiet (fail)
  go_wp2_with fail
  go_ret
  exact ⟨ret_b HX.out.symm,below_drewN (bel hb ((Below.refl _ _).alloc (Nat.le_refl _) _)) _⟩
 have hp:=hPl (fun _=>False)
 clear hPl
 have HOK:=Lib.hid (show K.ok31 x.nd x.l x.s x.r v=true from hp.ok)
 have HLN:=Lib.hid hV.1
 have hv6:vn≤6:=by have:=(K.ok31_parts hp.ok).2.2.2.2.1;have:=hV.1;dsimp only at *;omega
 obtain ⟨w5,hw5⟩:∃ w5,w5=w4.alloc (.cells #[.pointer (some ⟨b,0,none⟩)] 162):=⟨_,rfl⟩
 have b45:Below w4.heap.size w4 w5:=by rw [hw5];exact (Below.refl _ _).alloc (Nat.le_refl _) _
 have hG:w5.heap[w4.heap.size]? = some (.cells #[.pointer (some ⟨b,0,none⟩)] 162 (0,0)):=by rw [hw5];exact heap_alloc_new _ _
 have hP5:=hP.below b45
 have hS5:=hS.below b45
 have hB5:=blk_below b45 hB
 cases hv0:((vn:Int) == 0)
 rotate_left
 ·have HX:=Lib.hid (show K.blocks x.nd x.l x.s x.r v l=false by
   have h0:vn=0:=by simpa using hv0
   have h1:v.length=0:=by rw [←HLN.out];exact h0
   simp [K.blocks,h1])
  have c1:=blk_cell hB5 1 _ rfl
  rw [hw5] at c1
  go_wp2_with fail
  rw [←hw5]
  have c1:=blk_cell hB5 1 _ rfl
  go_quiet (fail)
  go_wp2_with fail
  go_ret
  exact ⟨ret_b HX.out.symm,below_drewN (bel hb b45) _⟩
 have hb5:=bel hb b45
 have HV0:=Lib.hid (show ¬ vn=0 by simpa using hv0)
 have hp5:=hp.below b45
 have hmk:∀ w',Below w5.heap.size w5 w'→(fun w'=>Below w5.heap.size w5 w'∧w'.cell? ⟨w.heap.size,0,none⟩=some (.int .i64 x.nd)∧w'.cell? ⟨w.heap.size,1,none⟩=some (.slice x.A x.n x.c)∧w'.cell? ⟨w.heap.size + 1,0,none⟩=some (.int .i64 x.s.day)∧w'.cell? ⟨w.heap.size + 1,1,none⟩=some (.int .i64 x.s.depot)∧w'.cell? ⟨w.heap.size + 1,2,none⟩=some (.int .i64 x.s.start)∧w'.cell? ⟨w.heap.size + 1,3,none⟩=some (.int .i64 x.s.end_)∧w'.cell? ⟨w.heap.size + 1,4,none⟩=some (.int .i64 x.s.tare)∧w'.cell? ⟨w.heap.size + 1,5,none⟩=some (.slice x.s.A x.s.n x.s.c)∧w'.cell? ⟨w.heap.size + 1 + 1,0,none⟩=some (.int .i64 sh)∧w'.cell? ⟨w.heap.size + 1 + 1,1,none⟩=some (.slice V vn vc)∧w'.cell? ⟨w.heap.size + 1 + 1,2,none⟩=some (.slice LA ln lc)) w':=fun w' h=>by
  have h1:=hP5.below h
  obtain ⟨s0,s1,s2,s3,s4,s5⟩:=(hS5.below h).cells
  have h3:=blk_below h hB5
  exact ⟨h,h1.c0,h1.c1,s0,s1,s2,s3,s4,s5,blk_cell h3 0 _ rfl,blk_cell h3 1 _ rfl,blk_cell h3 2 _ rfl⟩
 have S0:=hmk _ (Below.refl _ _)
 have S0d:=hmk w5.drew (Below.refl w5.heap.size w5).drew
 have h5d:=bel hb5 (w2:=w5.drew) (Below.refl w5.heap.size w5).drew
 go_wp2_with fail
 rw [←hw5]
 clear hw5 hP hS hB hP5 b45
 go_region_held3 (fun w'=>Below w5.heap.size w5 w'∧w'.cell? ⟨w.heap.size,0,none⟩=some (.int .i64 x.nd)∧w'.cell? ⟨w.heap.size,1,none⟩=some (.slice x.A x.n x.c)∧w'.cell? ⟨w.heap.size + 1,0,none⟩=some (.int .i64 x.s.day)∧w'.cell? ⟨w.heap.size + 1,1,none⟩=some (.int .i64 x.s.depot)∧w'.cell? ⟨w.heap.size + 1,2,none⟩=some (.int .i64 x.s.start)∧w'.cell? ⟨w.heap.size + 1,3,none⟩=some (.int .i64 x.s.end_)∧w'.cell? ⟨w.heap.size + 1,4,none⟩=some (.int .i64 x.s.tare)∧w'.cell? ⟨w.heap.size + 1,5,none⟩=some (.slice x.s.A x.s.n x.s.c)∧w'.cell? ⟨w.heap.size + 1 + 1,0,none⟩=some (.int .i64 sh)∧w'.cell? ⟨w.heap.size + 1 + 1,1,none⟩=some (.slice V vn vc)∧w'.cell? ⟨w.heap.size + 1 + 1,2,none⟩=some (.slice LA ln lc))
  (first | assumption | exact S0 | exact S0d)
  (first
   | (go_at_call 78;refine (labels30_any x V vn vc v w5.drew (hx.below h5d) (hV.below h5d) hvc hvn).mono ?_;rintro e w6 ⟨⟨A6,n6,c6,rfl,hI6⟩,b6⟩;have h56:Below w5.heap.size w5 w6:=bel (w1:=w5.drew) (Below.refl _ _).drew b6;have S6:=hmk _ h56)
   | (go_at_call 138;refine (eqlab_any LA A6 ln n6 lc c6 l (K.labs x.nd x.l x.s x.r v) w6 (Lst.below hL (bel hb5 h56)) hI6 hln (by rw [hI6.1];exact Nat.le_trans (K.labs_len _ _ _ _ _) (by omega))).mono ?_;rintro e w7 ⟨rfl,b7⟩;have h57:=bel h56 b7;have S7:=hmk _ h57)
   | fail)
 obtain ⟨z,hz⟩:∃ z,z=decide (l=K.labs x.nd x.l x.s x.r v):=⟨_,rfl⟩
 rw [←hz]
 have HZ:=Lib.hid hz
 have hb7:=bel hb5 h57
 clear S0 S0d S6 h56 hI6 b6 b7 hmk hz
 cases z
 ·have HX:=Lib.hid (show K.blocks x.nd x.l x.s x.r v l=false by unfold K.blocks;rw [←HZ.out];simp)
  clear S7
  go_wp2_with fail
  go_ret
  exact ⟨ret_b HX.out.symm,hb7⟩
 ·have hll:l=K.labs x.nd x.l x.s x.r v:=of_decide_eq_true HZ.out.symm
  obtain ⟨N,hN⟩:∃ N,N=2 ^ vn:=⟨_,rfl⟩
  have hN1:1≤N:=by rw [hN];exact Nat.two_pow_pos vn
  have hN64:N≤64:=by rw [hN];exact Nat.pow_le_pow_right (by omega) hv6
  have hw1:IntKind.i64.wrap ((2:Int) ^ vn)=(N:Int):=by rw [wrap_pow (by omega),hN];simp
  have hw2:wrap64 ((2:Int) ^ vn)=(N:Int):=by rw [←IntWalk.i64_left];exact hw1
  have HNN:=Lib.hid hN
  clear hN
  obtain ⟨al,hal⟩:∃ al,al=N - 1:=⟨_,rfl⟩
  have hw3:IntKind.i64.wrap ((N:Int) - 1)=(al:Int):=by rw [IntWalk.i64_in _ (by omega)];omega
  have hw4:wrap64 ((N:Int) - 1)=(al:Int):=by rw [←IntWalk.i64_left];exact hw3
  have HX:=Lib.hid (show K.blocks x.nd x.l x.s x.r v l=!(l.any (K.opensAt x.nd x.l x.s x.r v al)) by
   unfold K.blocks
   rw [←HZ.out,HOK.out,hal,HNN.out,HLN.out]
   have h0:(v.length == 0)=false:=by have:=HV0.out;rw [HLN.out] at this;simpa using this
   rw [h0]
   simp)
  have hokl:∀ y ∈ l,LabOk ⟨x,V,vn,vc,v⟩ y:=by rw [hll];exact hp.labs
  have hal2:al < 256:=by omega
  obtain ⟨w8,hw8⟩:∃ w8,w8=w7.alloc (.cells #[.int .i64 (al:Int)] 3):=⟨_,rfl⟩
  have b78:Below w7.heap.size w7 w8:=by rw [hw8];exact (Below.refl _ _).alloc (Nat.le_refl _) _
  have h58:=bel h57 b78
  have hA:w8.heap[w7.heap.size]? = some (.cells #[.int .i64 (al:Int)] 3 (0,0)):=by rw [hw8];exact heap_alloc_new _ _
  have e2:=blk_cell (blk_below h58 hB5) 2 _ rfl
  have e1:=blk_cell (blk_below h57 hB5) 1 _ rfl
  rw [hw8] at e2
  have hp8:=hp5.below h58
  have CC:=containsL b mb ⟨x,V,vn,vc,v⟩ al w7.heap.size w4.heap.size (w.heap.size + 1) LA ln lc l w8 hp8 (fun g hg=>hg.elim) hA (blk_below h58 hG) (hS5.below h58) hal2 (Lst.below hL (bel hb7 b78)) hln hokl
  obtain ⟨r9,hr9⟩:∃ r9,r9=l.any (K.opensAt x.nd x.l x.s x.r v al):=⟨_,rfl⟩
  simp only [←hr9] at CC
  rw [←hr9] at HX
  clear S7 hal hr9 hll hokl
  go_wp2_with fail
  rw [←hw8]
  clear e1 e2 hw8
  refine CC.mono ?_
  rintro e w9 ⟨rfl,hW⟩
  go_wp2_with fail
  go_ret
  exact ⟨ret_b HX.out.symm,below_own2 (bel hb7 b78) hW.1 (fun g e=>by injection e with e;omega)⟩
namespace K
def Better (nd:Int) (l:List Ro) (s:S) (r:List Q) (o:List Int) (s':S) (r':List Q) (o':List Int):Prop :=
 (run nd l s' r' o').e=0∧(run nd l s' r' o').tour.end_≤(run nd l s r o).tour.end_
theorem fine_right {nd:Int} {l:List Ro} {s:S} {r:List Q} {o:List Int} (h:right nd l s r o=true):Fine nd r o:=by
 obtain ⟨h1,h2,h3,h4⟩:=right_parts h
 obtain ⟨h5,h6,h7⟩:=T.load_parts h2
 intro i hi
 have hb:=T.isSetFrom_mem h6 i hi
 obtain ⟨q,hq⟩:∃ q,r[i.toNat]? = some q:=⟨_,List.getElem?_eq_getElem (by omega)⟩
 have hr:=right_req (h7 q (List.mem_of_getElem? hq))
 have e:req r i=q:=by unfold req;rw [hq];rfl
 have:=h4 i hi
 rw [e] at this ⊢
 exact ⟨⟨hr.1.1,this⟩,hr.2.1.1⟩
theorem skips {nd:Int} {l:List Ro} {s:S} {r:List Q} {o1 o2:List Int} {i:Int} (h:(run nd l s r (o1 ++ i :: o2)).e=0) :
  Better nd l s r (o1 ++ i :: o2) s r (o1 ++ o2)∧∃ t1 t2 t2' b,(run nd l s r (o1 ++ i :: o2)).tour.times=t1 ++ b :: t2∧(run nd l s r (o1 ++ o2)).tour.times=t1 ++ t2'∧t1.length=o1.length∧Ahead t2' t2:=by
 obtain ⟨h1,h2,h3,h4⟩:=run_ok h
 obtain ⟨p1,p2,p3,p4⟩:=right_parts h1
 obtain ⟨-,⟨d0,d1⟩,st0,st1,-⟩:=check_parts (T.load_parts p2).1
 have hfine:=fine_right h1
 have hsub:(o1 ++ o2).Sublist (o1 ++ i :: o2):=(List.Sublist.refl o1).append (List.sublist_cons_self i o2)
 have hr':=right_sub h1 hsub
 have hp1:=(legs_take (nd:=nd) (l:=l) (s:=s) (r:=r) (o1 ++ i :: o2) [] s.depot s.start o1.length).1 (by
  have:=(legs_full (nd:=nd) (l:=l) (s:=s) (r:=r) (o1 ++ i :: o2) [] s.depot s.start).1 h2
  rw [this,List.length_append];omega)
 rw [List.take_left] at hp1
 have e1:(legs nd l s r [] s.depot s.start o1).e=0:=hp1.1
 have hl1:=(legs_full (nd:=nd) (l:=l) (s:=s) (r:=r) o1 [] s.depot s.start).1 e1
 have hA:=legs_app o1 [] s.depot s.start (i :: o2) e1
 have hB:=legs_app o1 [] s.depot s.start o2 e1
 rw [List.nil_append] at hA hB
 obtain ⟨ha,ht⟩:=legs_at o1 [] s.depot s.start (fun j hj=>hfine j (List.mem_append_left _ hj)) ⟨d0,p3⟩ st0 e1
 obtain ⟨a,hae⟩:∃ a,a=(legs nd l s r [] s.depot s.start o1).a:=⟨_,rfl⟩
 obtain ⟨t,hte⟩:∃ t,t=(legs nd l s r [] s.depot s.start o1).t:=⟨_,rfl⟩
 rw [←hae,←hte] at hA hB
 rw [←hae] at ha
 rw [←hte] at ht
 have e2:(legs nd l s r o1 a t (i :: o2)).e=0:=by
  have:(legs nd l s r [] s.depot s.start (o1 ++ i :: o2)).e=0:=h2
  rw [hA] at this;exact this
 obtain ⟨k1,k2⟩:=legs_cons_ok e2
 have e3:(legs nd l s r (o1 ++ [i]) (req r i).node ((leg nd l s r o1 i a t).1 + (req r i).service) o2).e=0:=by rw [k2] at e2;exact e2
 obtain ⟨⟨n0,n1⟩,n2⟩:=hfine i (by simp)
 obtain ⟨-,-,l3,l4,l5,l6,l7⟩:=leg_ok k1
 obtain ⟨r1,r2,r3,r4⟩:=reach_ok l4
 obtain ⟨-,-,-,f4,-⟩:=H.fit_ok l5
 have hpi:(o1 ++ [i]).Sublist (o1 ++ i :: o2):=(List.Sublist.refl o1).append (by simp)
 have hw0:T.weight s r o1≤T.weight s r (o1 ++ [i]):=T.weight_sub (T.load_sub p2 hpi) (by simp)
 have hd:Dom nd l s r (o1 ++ [i]) (req r i).node ((leg nd l s r o1 i a t).1 + (req r i).service) s r o1 a t:=by
  intro c hc hrc
  obtain ⟨w1,w2,w3,w4⟩:=reach_ok hrc
  obtain ⟨g1,g2,g3⟩:=way_tri p1 ha ⟨n0,n1⟩ hc hw0 r1 w1
  have:t + way nd l a (T.weight s r o1) c≤(reach nd l s r (o1 ++ [i]) (req r i).node ((leg nd l s r o1 i a t).1 + (req r i).service) c).1:=by
   rw [w3,l6];omega
  rw [reach_mk g1 (by omega)]
  exact ⟨rfl,by simp only;omega,by simp only;exact this⟩
 have hsubs:∀ p,p <+: o2→(o1 ++ p).Sublist (o1 ++ [i] ++ p)∧T.load s r (o1 ++ [i] ++ p)=true:=fun p hp=>by
  refine ⟨by simp,T.load_sub p2 ?_⟩
  rw [List.append_assoc]
  exact (List.Sublist.refl o1).append (List.Sublist.cons_cons i hp.sublist)
 obtain ⟨g1,g2,g3⟩:=legs_dom p1 (s:=s) (s':=s) rfl (Int.le_refl _) o2 (o1 ++ [i]) o1 _ _ _ _ (fun _ _=>⟨rfl,rfl,rfl,rfl,rfl⟩) (fun j hj=>hfine j (by simp [hj])) (fun p hp=>T.weight_sub (hsubs p hp).2 (hsubs p hp).1) (fun p hp hf=>T.fits_sub hf (hsubs p hp).1) hd e3
 have hb:=g3 s.depot ⟨d0,p3⟩ (by
  have h9:=h3
  unfold back all at h9
  rw [hA,k2] at h9
  simp only at h9
  simpa using h9)
 have hall:(all nd l s r (o1 ++ o2)).e=0:=by unfold all;rw [hB];exact g1
 have hb1:(back nd l s r (o1 ++ o2)).2=0:=by unfold back all;rw [hB];exact hb.1
 have h5:=run_mk hr' hall hb1
 unfold Better
 rw [h5,h4]
 refine ⟨⟨rfl,?_⟩,(legs nd l s r [] s.depot s.start o1).times,(legs nd l s r (o1 ++ [i]) (req r i).node ((leg nd l s r o1 i a t).1 + (req r i).service) o2).times,(legs nd l s r o1 a t o2).times,(leg nd l s r o1 i a t).1,?_,?_,hl1,g2⟩
 ·have:=hb.2.2
  unfold back all
  rw [hA,hB,k2]
  simp only
  simpa using this
 ·simp only
  unfold all
  rw [hA,k2]
 ·simp only
  unfold all
  rw [hB]
end K
theorem Tryz.info47:(Tryz.prog.info? 47).map (fun i=>(i.zero,i.size,i.bytes))=some (some (.agg #[.int .i64 0,.int .i64 0,.int .i64 0,.int .i64 0,.int .i64 0,.int .i64 0,.slice none 0 0]),7,72):=by kernel_rfl
theorem step_append_rd {P:Program} {w:World} {ops:Array Oper} {o:Oper} {a:Act} {K:Act→World→Prop} {Q:Exit→Act→World→Prop} {E:Prop} (hgd:o.guard=none) (s x:Operand) (t:TypeId)
  (ho:o.op=.call { callee:=.builtin .append,args:=#[s,x],argTypes:=#[t,t] })
  (base:Nat) (e:TypeId) (i:TypeInfo) (z:Value) (size bytes:Nat) (ht:P.underlying t=some (.slice e)) (hi:P.info? e=some i) (hz:i.zero=some z)
  (hsize:i.size=size) (hby:i.bytes=bytes) (hzs:z.cells.size=size) (hsz:0 < size)
  (v:Value) (n:Nat) (xs:List Value) (hs:a.eval s=v) (hown:w.ownsRow base e size v n xs)
  (A:Option Addr) (m c:Nat) (news:List Value) (hx:a.eval x=.slice A m c) (hr:Rd w size A m news) (h1:∀ u ∈ news,u.oneCell'=true)
  (h63:n + m≤maxLen) (hbytes:(n + m) * bytes≤140737488355328) (hbase:base≤w.heap.size)
  (h:∀ v' w',w'.ownsRow base e size v' (n + m) (xs ++ news)→w.grownBy w' v.ownBlock→(v'.ownBlock=v.ownBlock∨v'.ownBlock=some w.heap.size)→K (a.put o.dst v') w') :
  if Region.wanted o (yielded ops a.tmps)=true then Oper.wp P o a w K Q else E:=by
 have hw:Region.wanted o (yielded ops a.tmps)=true:=by simp [Region.wanted,hgd]
 rw [if_pos hw]
 obtain ⟨v',w',hrun,h2,h3,h4⟩:=run_append_rd (P:=P) w base t o.type e i z size bytes ht hi hz hsize hby hzs hsz v n xs hown A m c news hr h1 h63 hbytes hbase
 unfold Oper.wp execOp
 simp only [ho,resolve,invoke,builtin,Sem.run_bind,Sem.run_pure,Result.andThen_ok,List.map_toArray,List.map_cons,List.map_nil,hs,hx,hrun]
 exact h v' w' h2 h3 h4
theorem Ints.drop {w:World} {A:Option Addr} {n:Nat} {l:List Int} (h:Ints w A n l) {ad:Addr} (e:A=some ad) {k:Nat} (hk:k≤n):Ints w (some (ad.add k)) (n - k) (l.drop k):=by
 subst e
 refine ⟨by rw [List.length_drop,←h.1],by simp [intCells];have:=h.1;omega,fun h0=>?_⟩
 obtain ⟨ad',e,hc⟩:=h.2.2 (by omega)
 injection e with e
 subst e
 refine ⟨_,rfl,fun j u hu=>?_⟩
 rw [intCells,List.map_drop,List.getElem?_drop] at hu
 rw [add_add]
 exact hc (k + j) u hu
theorem own_lit {w:World} {base g:Nat} {e:TypeId} {size:Nat} (h:w.heap[g]? = some (.cells #[] e (0,0))) (hb:base≤g):w.ownsRow base e size (.slice (some ⟨g,0,none⟩) 0 0) 0 [] :=
 ⟨by simp,.inr ⟨g,0,#[],rfl,hb,h,Nat.le_refl _,by simp [maxLen],by simp,by simp⟩⟩
theorem drop_of_some {α:Type} {l:List α} {k:Nat} {a:α} (h:l[k]? = some a):l.drop k=a :: l.drop (k + 1):=by
 obtain ⟨hk,e⟩:=List.getElem?_eq_some_iff.1 h
 rw [List.drop_eq_getElem_cons hk,e]
namespace K
def ordGo (n:Int):Int→List Int→Bool
 | _,[]=>true
 | p,k :: rest=>decide (0≤k) && (decide (k < n) && (decide (p < k) && ordGo n k rest))
def set31 (l:List Int) (n:Int):Bool:=ordGo n (-1) l && decide (l.length≤6)
theorem ordGo_sorted {n:Int}:∀ (l:List Int) (p:Int),ordGo n p l=true→(∀ x ∈ l,0≤x∧x < n)∧(∀ x ∈ l,p < x)∧l.Nodup
 | [],_,_=>⟨by simp,by simp,List.nodup_nil⟩
 | i :: l,p,h=>by
  simp only [ordGo,Bool.and_eq_true,decide_eq_true_eq] at h
  obtain ⟨h1,h2,h3⟩:=ordGo_sorted l i h.2.2.2
  refine ⟨fun x hx=>?_,fun x hx=>?_,List.nodup_cons.2 ⟨fun hi=>by have:=h2 i hi;omega,h3⟩⟩
  ·rcases List.mem_cons.1 hx with rfl | hx
   ·exact ⟨h.1,h.2.1⟩
   ·exact h1 x hx
  ·rcases List.mem_cons.1 hx with rfl | hx
   ·exact h.2.2.1
   ·have:=h2 x hx;have:=h.2.2.1;omega
theorem setGo_ord {nd:Int} {r:List Q}:∀ (l:List Int) (p:Int),setGo nd r p l=(ordGo (r.length:Int) p l && l.all fun i=>decide ((req r i).node < nd))
 | [],_=>rfl
 | i :: l,p=>by
  simp only [setGo,ordGo,List.all_cons,setGo_ord l i]
  cases decide (0≤i) <;> cases decide (i < (r.length:Int)) <;> cases decide (p < i) <;> cases decide ((req r i).node < nd) <;> simp
theorem ok31_eq (nd:Int) (l:List Ro) (s:S) (r:List Q) (v:List Int):ok31 nd l s r v=(set31 v (r.length:Int) && right nd l s r v):=by
 unfold ok31 set31 right
 rw [setGo_ord]
 cases h1:ordGo (r.length:Int) (-1) v
 ·simp
 ·obtain ⟨a,-,c⟩:=ordGo_sorted _ _ h1
  have hs:T.isSet (r.length:Int) v=true:=T.isSet_iff.2 ⟨a,c⟩
  unfold T.load
  rw [hs]
  cases (netErr nd l == 0) <;> cases (T.check s == 0) <;> cases decide (s.depot < nd) <;> cases (r.any fun q=>!T.right q) <;> cases decide (v.length≤6) <;> simp
end K
namespace K
structure St where
 bits:Nat
 a:Int
 t:Int
 stops:List Int
 times:List Int
def late (best:Option Tr) (t:Int):Bool:=match best with | none=>false | some b=>decide (b.end_≤t)
def better (best:Option Tr) (e:Int):Bool:=match best with | none=>true | some b=>decide (e < b.end_)
def home (nd:Int) (l:List Ro) (s:S) (r:List Q) (v:List Int) (st:St) (best:Option Tr):Option Tr :=
 if way nd l st.a (T.weight s r (part v st.bits)) s.depot ≠ -1∧st.t + way nd l st.a (T.weight s r (part v st.bits)) s.depot≤s.end_∧better best (st.t + way nd l st.a (T.weight s r (part v st.bits)) s.depot)=true
 then some ⟨st.stops,st.times,st.t + way nd l st.a (T.weight s r (part v st.bits)) s.depot⟩ else best
def onward (nd:Int) (l:List Ro) (s:S) (r:List Q) (v:List Int) (st:St) (i:Nat) (k:Int):Option St :=
 if st.bits.testBit i=true then none
 else if way nd l st.a (T.weight s r (part v st.bits)) (req r k).node=-1 then none
 else if (begins s r (req r k) (part v (st.bits + 2 ^ i)) (st.t + way nd l st.a (T.weight s r (part v st.bits)) (req r k).node)).2=false then none
 else some ⟨st.bits + 2 ^ i,(req r k).node,(begins s r (req r k) (part v (st.bits + 2 ^ i)) (st.t + way nd l st.a (T.weight s r (part v st.bits)) (req r k).node)).1 + (req r k).service,
  st.stops ++ [k],st.times ++ [(begins s r (req r k) (part v (st.bits + 2 ^ i)) (st.t + way nd l st.a (T.weight s r (part v st.bits)) (req r k).node)).1]⟩
def seek (nd:Int) (l:List Ro) (s:S) (r:List Q) (v:List Int):Nat→St→Option Tr→Option Tr
 | 0,_,best=>best
 | f + 1,st,best =>
  if late best st.t=true then best
  else if st.bits=2 ^ v.length - 1 then home nd l s r v st best
  else go (seek nd l s r v f) nd l s r v st best 0 v
where
 go (rec:St→Option Tr→Option Tr) (nd:Int) (l:List Ro) (s:S) (r:List Q) (v:List Int) (st:St) (best:Option Tr) (i:Nat):List Int→Option Tr
  | []=>best
  | k :: rest=>match onward nd l s r v st i k with
   | none=>go rec nd l s r v st best (i + 1) rest
   | some st'=>go rec nd l s r v st (rec st' best) (i + 1) rest
def best (nd:Int) (l:List Ro) (s:S) (r:List Q) (v:List Int):Option Tr:=seek nd l s r v (2 ^ v.length) ⟨0,s.depot,s.start,[],[]⟩ none
end K
structure But3 (w w':World) (mb gb gf:Nat):Prop where
 os:w'.os=w.os
 tape:w'.tape=w.tape
 output:w'.output=w.output
 size:w.heap.size≤w'.heap.size
 block:∀ k,k < w.heap.size→k ≠ mb→k ≠ gb→k ≠ gf→w'.heap[k]? = w.heap[k]?
theorem But3.of {w w':World} {mb gb gf:Nat} (h:w.grownBy w' (some mb)):But3 w w' mb gb gf:=⟨h.os,h.tape,h.output,h.size,fun k hk hne _ _=>h.block k hk (fun e=>hne (by injection e))⟩
theorem But3.refl (w:World) (mb gb gf:Nat):But3 w w mb gb gf:=⟨rfl,rfl,rfl,Nat.le_refl _,fun _ _ _ _ _=>rfl⟩
theorem But3.trans {w w1 w2:World} {mb gb gf:Nat} (h:But3 w w1 mb gb gf) (h2:But3 w1 w2 mb gb gf):But3 w w2 mb gb gf :=
 ⟨h2.os.trans h.os,h2.tape.trans h.tape,h2.output.trans h.output,Nat.le_trans h.size h2.size,fun k hk a b c=>(h2.block k (Nat.lt_of_lt_of_le hk h.size) a b c).trans (h.block k hk a b c)⟩
theorem But3.below {w w1 w2:World} {mb gb gf:Nat} (h:But3 w w1 mb gb gf) (h2:Below w1.heap.size w1 w2):But3 w w2 mb gb gf :=
 h.trans ⟨h2.os,h2.tape,h2.output,h2.size,fun k hk _ _ _=>h2.block k hk⟩
theorem But3.set {w w':World} {mb gb gf g:Nat} (h:But3 w w' mb gb gf) (hg:g=gb∨g=gf) (i:Nat) (v:Value):But3 w (w'.setCell ⟨g,i,none⟩ v) mb gb gf :=
 ⟨h.os,h.tape,h.output,by rw [World.size_setCell];exact h.size,fun k hk a b c=>(Below.heap_setCell w' _ _ k (by rcases hg with rfl | rfl <;> assumption)).trans (h.block k hk a b c)⟩
structure BestAt (w:World) (gb gf:Nat) (best:Option K.Tr):Prop where
 found:w.heap[gf]? = some (.cells #[.bool best.isSome] 4 (0,0))
 blk:∃ A n c A' n' c' e,TBlk w gb 0 (.slice A n c) (.slice A' n' c') e∧∀ b,best=some b→Ints w A n b.stops∧Ints w A' n' b.times∧e=b.end_∧(∀ ad,A=some ad→gb < ad.block∧gf < ad.block)∧(∀ ad,A'=some ad→gb < ad.block∧gf < ad.block)∧n≤c∧n'≤c'
theorem BestAt.ext {w w':World} {gb gf:Nat} {best:Option K.Tr} (h:BestAt w gb gf best) (hx:Ext w w'):BestAt w' gb gf best:=by
 obtain ⟨A,n,c,A',n',c',e,hT,hb⟩:=h.blk
 exact ⟨hx.cells _ _ _ _ h.found,A,n,c,A',n',c',e,hx.cells _ _ _ _ hT,fun b e=>by
  obtain ⟨h1,h2,h3⟩:=hb b e
  exact ⟨h1.ext hx,h2.ext hx,h3⟩⟩
theorem BestAt.ne {w:World} {gb gf:Nat} {best:Option K.Tr} (h:BestAt w gb gf best):gb ≠ gf:=fun e=>by
 obtain ⟨A,n,c,A',n',c',e',hT,-⟩:=h.blk
 have h1:=h.found
 rw [←e] at h1
 have h2:=hT.symm.trans h1
 injection h2 with h2
 injection h2 with h2
 simp at h2
def Sought (w w':World) (mb gb gf:Nat) (p:PS) (X:Nat→Prop) (best:Option K.Tr) (e:Ending):Prop :=
 e=.returned (.tuple #[])∧But3 w w' mb gb gf∧Memo w' mb p.x.nd p.x.l X∧BestAt w' gb gf best
structure SAt (wp w:World) (mb gb gf:Nat) (p:PS) (X:Nat→Prop) (best:Option K.Tr):Prop where
 ext:Ext wp w
 memo:Memo w mb p.x.nd p.x.l X
 best:BestAt w gb gf best
theorem SAt.pat {wp w:World} {b mb gb gf:Nat} {p:PS} {X:Nat→Prop} {best:Option K.Tr} (h:SAt wp w mb gb gf p X best) (hp:PAt wp b mb p X):PAt w b mb p X:=hp.keep h.ext h.memo
theorem SAt.below {wp w w':World} {mb gb gf:Nat} {p:PS} {X:Nat→Prop} {best:Option K.Tr} (h:SAt wp w mb gb gf p X best) (hb:Below w.heap.size w w'):SAt wp w' mb gb gf p X best :=
 ⟨h.ext.trans (Ext.below hb),h.memo.below hb,h.best.ext (Ext.below hb)⟩
theorem SAt.went {wp w w':World} {b mb gb gf:Nat} {p:PS} {X:Nat→Prop} {best:Option K.Tr} (h:SAt wp w mb gb gf p X best) (hp:PAt wp b mb p X) (hW:Went w w' b mb p X):SAt wp w' mb gb gf p X best :=
 have hx:=hW.ext (h.pat hp)
 ⟨h.ext.trans hx,hW.2.memo,h.best.ext hx⟩
theorem SAt.but {wp w w':World} {b mb gb gf:Nat} {p:PS} {X:Nat→Prop} {best best':Option K.Tr} (h:SAt wp w mb gb gf p X best) (hp:PAt wp b mb p X) (hgb:wp.heap.size≤gb) (hgf:wp.heap.size≤gf)
  (hB:But3 w w' mb gb gf) (hM:Memo w' mb p.x.nd p.x.l X) (hT:BestAt w' gb gf best'):SAt wp w' mb gb gf p X best' :=
 ⟨⟨Nat.le_trans h.ext.size hB.size,fun g cs t z e=>by
  have h1:=h.ext.cells g cs t z e
  have h2:=(Array.getElem?_eq_some_iff.1 e).1
  refine (hB.block g (Array.getElem?_eq_some_iff.1 h1).1 (fun e2=>?_) (by omega) (by omega)).trans h1
  obtain ⟨es,clock,hm,-⟩:=hp.memo
  rw [e2,hm] at e
  cases e⟩,hM,hT⟩
structure StAt (w:World) (p:PS) (gb gf:Nat) (st:K.St) (SA:Option Addr) (sn:Nat) (TA:Option Addr) (tn:Nat):Prop where
 stops:Ints w SA sn st.stops
 times:Ints w TA tn st.times
 s1:∀ ad,SA=some ad→ad.block ≠ gb∧ad.block ≠ gf
 t1:∀ ad,TA=some ad→ad.block ≠ gb∧ad.block ≠ gf
 bits:st.bits < 2 ^ p.n
 len:st.stops.length≤st.bits
 len2:st.times.length=st.stops.length
 a0:0≤st.a∧st.a < p.x.nd
 t0:0≤st.t∧st.t≤1000000
theorem Ints.but {w w':World} {mb gb gf:Nat} {nd:Int} {lr:List Ro} {X:Nat→Prop} {A:Option Addr} {n:Nat} {l:List Int} (h:Ints w A n l) (hM:Memo w mb nd lr X) (hB:But3 w w' mb gb gf) (hA:∀ ad,A=some ad→ad.block ≠ gb∧ad.block ≠ gf):Ints w' A n l :=
 ⟨h.1,h.2.1,fun hn=>by
  obtain ⟨ad,e,hc⟩:=h.2.2 hn
  refine ⟨ad,e,fun j u hu=>?_⟩
  have h1:=hc j u hu
  have h2:=cell_lt h1
  rw [add_block] at h2
  refine (World.cell?_of_block (by
   rw [add_block]
   refine hB.block _ h2 (fun e2=>?_) (hA ad e).1 (hA ad e).2
   obtain ⟨es,clock,hm,-⟩:=hM
   rw [←e2] at hm
   simp only [World.cell?,add_block,hm] at h1
   cases h1)).trans h1⟩
theorem StAt.but {w w':World} {p:PS} {mb gb gf:Nat} {nd:Int} {lr:List Ro} {X:Nat→Prop} {st:K.St} {SA TA:Option Addr} {sn tn:Nat} (h:StAt w p gb gf st SA sn TA tn) (hM:Memo w mb nd lr X) (hB:But3 w w' mb gb gf):StAt w' p gb gf st SA sn TA tn :=
 ⟨h.stops.but hM hB h.s1,h.times.but hM hB h.t1,h.s1,h.t1,h.bits,h.len,h.len2,h.a0,h.t0⟩
theorem StAt.ext {w w':World} {p:PS} {gb gf:Nat} {st:K.St} {SA TA:Option Addr} {sn tn:Nat} (h:StAt w p gb gf st SA sn TA tn) (hB:Ext w w'):StAt w' p gb gf st SA sn TA tn :=
 ⟨h.stops.ext hB,h.times.ext hB,h.s1,h.t1,h.bits,h.len,h.len2,h.a0,h.t0⟩
def StBlk (w:World) (H:Nat) (st:K.St) (SA:Option Addr) (sn sc:Nat) (TA:Option Addr) (tn tc:Nat):Prop :=
 w.heap[H]? = some (.cells #[.int .i64 (st.bits:Int),.int .i64 st.a,.int .i64 st.t,.slice SA sn sc,.slice TA tn tc] 208 (0,0))
theorem StBlk.cells {w:World} {H:Nat} {st:K.St} {SA TA:Option Addr} {sn sc tn tc:Nat} (h:StBlk w H st SA sn sc TA tn tc) :
  w.cell? ⟨H,0,none⟩=some (.int .i64 (st.bits:Int))∧w.cell? ⟨H,1,none⟩=some (.int .i64 st.a)∧w.cell? ⟨H,2,none⟩=some (.int .i64 st.t)∧w.cell? ⟨H,3,none⟩=some (.slice SA sn sc)∧w.cell? ⟨H,4,none⟩=some (.slice TA tn tc) :=
 ⟨blk_cell h 0 _ rfl,blk_cell h 1 _ rfl,blk_cell h 2 _ rfl,blk_cell h 3 _ rfl,blk_cell h 4 _ rfl⟩
theorem blk_other {w:World} {g:Nat} {o:Obj} (h:w.heap[g]? = some o) {g' i:Nat} (v:Value) (hne:g ≠ g'):(w.setCell ⟨g',i,none⟩ v).heap[g]? = some o :=
 (Below.heap_setCell w _ v g hne).trans h
theorem own_capP {w:World} {base:Nat} {e:TypeId} {size n n' c:Nat} {A:Option Addr} {xs:List Value} (h:w.ownsRow base e size (.slice A n' c) n xs):n≤c:=by
 obtain ⟨-,⟨e,e0⟩ | ⟨g',cap,cur,e,-,-,h9,-⟩⟩:=h
 ·rw [e0];exact Nat.zero_le _
 ·injection e with e1 e2 e3
  rw [e3];exact h9
theorem SAt.stored {wp w:World} {b mb gb gf:Nat} {p:PS} {X:Nat→Prop} {best:Option K.Tr} (h:SAt wp w mb gb gf p X best) (hp:PAt wp b mb p X) (hgb:wp.heap.size≤gb) (hgf:wp.heap.size≤gf) (hXb:X gb) (hXf:X gf)
  (S T:List Int) (en:Int) {A A':Option Addr} {n c n' c':Nat} (hA:Ints w A n S) (hA':Ints w A' n' T) (h1:∀ ad,A=some ad→gb < ad.block∧gf < ad.block) (h2:∀ ad,A'=some ad→gb < ad.block∧gf < ad.block) (hc:n≤c) (hc':n'≤c') :
  But3 w (((((w.setCell ⟨gb,0,none⟩ (.int .i64 0)).setCell ⟨gb,1,none⟩ (.slice A n c)).setCell ⟨gb,2,none⟩ (.slice A' n' c')).setCell ⟨gb,3,none⟩ (.int .i64 en)).setCell ⟨gf,0,none⟩ (.bool true)) mb gb gf ∧
  Memo (((((w.setCell ⟨gb,0,none⟩ (.int .i64 0)).setCell ⟨gb,1,none⟩ (.slice A n c)).setCell ⟨gb,2,none⟩ (.slice A' n' c')).setCell ⟨gb,3,none⟩ (.int .i64 en)).setCell ⟨gf,0,none⟩ (.bool true)) mb p.x.nd p.x.l X ∧
  BestAt (((((w.setCell ⟨gb,0,none⟩ (.int .i64 0)).setCell ⟨gb,1,none⟩ (.slice A n c)).setCell ⟨gb,2,none⟩ (.slice A' n' c')).setCell ⟨gb,3,none⟩ (.int .i64 en)).setCell ⟨gf,0,none⟩ (.bool true)) gb gf (some ⟨S,T,en⟩):=by
 have hmb:=hp.memo.lt
 obtain ⟨A0,n0,c0,A1,n1,c1,e0,hT,-⟩:=h.best.blk
 have hne:=h.best.ne
 refine ⟨((((((But3.refl w mb gb gf).set (.inl rfl) _ _).set (.inl rfl) _ _).set (.inl rfl) _ _).set (.inl rfl) _ _).set (.inr rfl) _ _),
  (((((h.memo.set hXb (by omega) _ _).set hXb (by omega) _ _).set hXb (by omega) _ _).set hXb (by omega) _ _).set hXf (by omega) _ _),?_,A,n,c,A',n',c',en,?_,?_⟩
 ·have hf:(((w.setCell ⟨gb,0,none⟩ (.int .i64 0)).setCell ⟨gb,1,none⟩ (.slice A n c)).setCell ⟨gb,2,none⟩ (.slice A' n' c')).setCell ⟨gb,3,none⟩ (.int .i64 en) |>.heap[gf]? = some (.cells #[.bool best.isSome] 4 (0,0)) :=
   blk_other (blk_other (blk_other (blk_other h.best.found _ (Ne.symm hne)) _ (Ne.symm hne)) _ (Ne.symm hne)) _ (Ne.symm hne)
  exact blk_set hf 0 _
 ·exact blk_other (blk_set (blk_set (blk_set (blk_set hT 0 _) 1 _) 2 _) 3 _) _ hne
 ·rintro b ⟨⟩
  exact ⟨((((hA.set _ fun ad e=>Nat.ne_of_gt (h1 ad e).1).set _ fun ad e=>Nat.ne_of_gt (h1 ad e).1).set _ fun ad e=>Nat.ne_of_gt (h1 ad e).1).set _ fun ad e=>Nat.ne_of_gt (h1 ad e).1).set _ fun ad e=>Nat.ne_of_gt (h1 ad e).2,
   ((((hA'.set _ fun ad e=>Nat.ne_of_gt (h2 ad e).1).set _ fun ad e=>Nat.ne_of_gt (h2 ad e).1).set _ fun ad e=>Nat.ne_of_gt (h2 ad e).1).set _ fun ad e=>Nat.ne_of_gt (h2 ad e).1).set _ fun ad e=>Nat.ne_of_gt (h2 ad e).2,rfl,h1,h2,hc,hc'⟩
theorem step_app_one {ops:Array Oper} {o:Oper} {a:Act} {w:World} {K:Act→World→Prop} {Q:Exit→Act→World→Prop} {E:Prop} (hgd:o.guard=none) (s x:Operand)
  (ho:o.op=.call { callee:=.builtin .append,args:=#[s,x],argTypes:=#[48,48] })
  (base:Nat) (v:Value) (n:Nat) (l:List Int) (hs:a.eval s=v) (hown:w.ownsRow base 3 1 v n (intCells l)) (g:Nat) (p:Int) (hx:a.eval x=.slice (some ⟨g,0,none⟩) 1 1)
  (hg:w.heap[g]? = some (.cells #[.int .i64 p] 3 (0,0))) (hn:n≤1000000) (hbase:base≤w.heap.size)
  (h:∀ A c w',Ints w' A (n + 1) (l ++ [p])→(∀ ad,A=some ad→base≤ad.block)→w.grownBy w' v.ownBlock→Below base w w'→K (a.put o.dst (.slice A (n + 1) c)) w') :
  if Region.wanted o (yielded ops a.tmps)=true then Oper.wp Tryz.prog o a w K Q else E:=by
 obtain ⟨i0,hi,hz0,hz1,hz2⟩:=info_parts Tryz.info3
 have hl:n=l.length:=by
  have:=hown.1
  simpa [intCells] using this.symm
 refine step_append_rd hgd s x 48 ho base 3 i0 (.int .i64 0) 1 8 Tryz.underlying48 hi hz0 hz1 hz2 rfl (by decide) v n (intCells l) hs hown (some ⟨g,0,none⟩) 1 1 [.int .i64 p] hx ⟨rfl,fun _=>⟨_,rfl,fun j u hu=>by rw [add_zero_block];exact blk_cell hg j u (by simpa using hu)⟩⟩ (fun u hu=>by simp at hu;subst hu;rfl) (by simp only [maxLen];omega) (by omega) hbase ?_
 intro v' w' h2 h3 h4
 obtain ⟨A,c,rfl,hR,hlt⟩:=own_form h2
 refine h A c w' ⟨by rw [List.length_append,←hl];rfl,by rw [intCells_app];exact hR⟩ (fun ad e=>?_) h3 ((Below.refl base w).grown h3 hbase (fun k e=>(hown.lt k e).1))
 subst e
 obtain ⟨ad0,e0,hc⟩:=hR.2 (by omega)
 injection e0 with e0
 subst e0
 rcases h2.2 with ⟨e,-⟩ | ⟨g',cap,cur,e,hb,-⟩
 ·cases e
 ·injection e with e
  injection e with e
  subst e
  exact hb
theorem ownsRow_below {w w':World} {base:Nat} {e:TypeId} {size n:Nat} {v:Value} {xs:List Value} (h:w.ownsRow base e size v n xs) (hb:Below w.heap.size w w'):w'.ownsRow base e size v n xs:=by
 obtain ⟨hl,h1 | ⟨g,cap,cur,h1,h2,h3,h4⟩⟩:=h
 ·exact ⟨hl,.inl h1⟩
 ·exact ⟨hl,.inr ⟨g,cap,cur,h1,h2,blk_below hb h3,h4⟩⟩
theorem step_app_two {ops:Array Oper} {o:Oper} {a:Act} {w w2:World} {K:Act→World→Prop} {Q:Exit→Act→World→Prop} {E:Prop} (hgd:o.guard=none) (s x:Operand)
  (ho:o.op=.call { callee:=.builtin .append,args:=#[s,x],argTypes:=#[48,48] })
  {base:Nat} {v:Value} {n:Nat} {l:List Int} (hown:w2.ownsRow base 3 1 v n (intCells l)) (hbase:base≤w2.heap.size) (hs:a.eval s=v) (g:Nat) (p:Int) (hx:a.eval x=.slice (some ⟨g,0,none⟩) 1 1)
  (hw:Below w2.heap.size w2 w) (hg:w.heap[g]? = some (.cells #[.int .i64 p] 3 (0,0))) (hn:n≤1000000)
  (h:∀ A c w',Ints w' A (n + 1) (l ++ [p])→(∀ ad,A=some ad→base≤ad.block)→w.grownBy w' v.ownBlock→Below base w w'→K (a.put o.dst (.slice A (n + 1) c)) w') :
  if Region.wanted o (yielded ops a.tmps)=true then Oper.wp Tryz.prog o a w K Q else E :=
 step_app_one hgd s x ho base v n l hs (ownsRow_below hown hw) g p hx hg hn (Nat.le_trans hbase hw.size) h
theorem bits_next_all:∀ n:Fin 7,∀ m:Fin 64,∀ k:Fin 6,m.val < 2 ^ n.val→k.val < n.val→m.val.testBit k.val=false→m.val + 2 ^ k.val < 2 ^ n.val:=by decide +kernel
theorem bits_next {m i n:Nat} (hn:n≤6) (hm:m < 2 ^ n) (hi:i < n) (hb:m.testBit i=false):m + 2 ^ i < 2 ^ n :=
 bits_next_all ⟨n,by omega⟩ ⟨m,Nat.lt_of_lt_of_le hm (Nat.pow_le_pow_right (by omega) hn)⟩ ⟨i,by omega⟩ hm hi hb
theorem below_at {w W w':World} (hb:Below w.heap.size w W) (_:Below W.heap.size W w'):w.heap.size≤W.heap.size:=hb.size
theorem lit_at {W w':World} {g:Nat} {o:Obj} (_:Below W.heap.size W w') (h:W.heap[g]? = some o):W.heap[g]? = some o:=h
theorem drew_fact {w:World} {g:Nat} {o:Obj} (h:w.heap[g]? = some o):w.drew.heap[g]? = some o:=h
theorem ints_at {W w':World} {A:Option Addr} {n:Nat} {l:List Int} (_:Below W.heap.size W w') (h:Ints W A n l):∀ w'',Below W.heap.size W w''→Ints w'' A n l:=fun _ hb=>h.below hb
namespace K
theorem go_none {rec:St→Option Tr→Option Tr} {nd:Int} {l:List Ro} {s:S} {r:List Q} {v:List Int} {st:St} {best:Option Tr} {k:Nat} {i:Int} (h:v[k]? = some i) (ho:onward nd l s r v st k i=none) :
  seek.go rec nd l s r v st best k (v.drop k)=seek.go rec nd l s r v st best (k + 1) (v.drop (k + 1)):=by
 rw [drop_of_some h,seek.go,ho]
theorem go_some {rec:St→Option Tr→Option Tr} {nd:Int} {l:List Ro} {s:S} {r:List Q} {v:List Int} {st st':St} {best:Option Tr} {k:Nat} {i:Int} (h:v[k]? = some i) (ho:onward nd l s r v st k i=some st') :
  seek.go rec nd l s r v st best k (v.drop k)=seek.go rec nd l s r v st (rec st' best) (k + 1) (v.drop (k + 1)):=by
 rw [drop_of_some h,seek.go,ho]
end K
end Go.Proofs.YtippdjmpkafifaaGreat
