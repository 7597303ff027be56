import Derived.Test.YtippdjmpkafifaaGreatCV1
import Derived.Below
import Derived.Laws.OwnMore
import Derived.Deep.AppendLies
import Derived.Deep.Draws
import Derived.Lib.Hide
import Derived.WalkKit
import Derived.WalkSpells
import Derived.WalkLawsBesides
import Derived.Maps.AppendAt
import Derived.BigQuiet
import Derived.Deep.RegionHeld3
import Derived.Lib.LazyBuf
import Derived.Deep.OwnRows
import Derived.Deep.RegionLaw
namespace Go.Proofs.YtippdjmpkafifaaGreat
open Go.RowKit
namespace Vt
instance (w:World):Nonempty (Beh w):=⟨⟨w,Below.refl _ _⟩⟩
end Vt
namespace Vt
structure It where
 val:Int
 bl:Int
 lt:Int
 rt:Int
def It.cells (x:It):List Value:=[.int .i64 x.val,.int .i64 x.bl,.int .i64 x.lt,.int .i64 x.rt]
abbrev itemCells (l:List It):List Value:=l.flatMap It.cells
abbrev Items (w:World) (A:Option Addr) (n:Nat) (l:List It):Prop:=Lst It.cells 4 w A n l
theorem Items.at_ {w:World} {A:Option Addr} {n k:Nat} {l:List It} (h:Items w A n l) (hk:k < n) :
  ∃ ad x,A=some ad∧l[k]? = some x∧w.cell? (ad.add (k * 4))=some (.int .i64 x.val) ∧
   w.cell? ⟨(ad.add (k * 4)).block,(ad.add (k * 4)).off + 1,none⟩=some (.int .i64 x.bl) ∧
   w.cell? ⟨(ad.add (k * 4)).block,(ad.add (k * 4)).off + 2,none⟩=some (.int .i64 x.lt) ∧
   w.cell? ⟨(ad.add (k * 4)).block,(ad.add (k * 4)).off + 3,none⟩=some (.int .i64 x.rt):=by
 obtain ⟨ad,x,hA,hl,hc⟩:=Lst.get (f:=It.cells) (s:=4) (fun _=>rfl) h hk
 refine ⟨ad,x,hA,hl,hc 0 _ (by omega) rfl,?_,?_,?_⟩
 ·rw [←add_next _ _ _ (by omega)];exact hc 1 _ (by omega) rfl
 ·rw [←add_next _ _ _ (by omega)];exact hc 2 _ (by omega) rfl
 ·rw [←add_next _ _ _ (by omega)];exact hc 3 _ (by omega) rfl
structure Ln where
 hh:Int
 cents:Int
 bl:Int
def Ln.cells (x:Ln):List Value:=[.int .i64 x.hh,.int .i64 x.cents,.int .i64 x.bl]
abbrev Lines (w:World) (A:Option Addr) (n:Nat) (l:List Ln):Prop:=Lst Ln.cells 3 w A n l
theorem Lines.at_ {w:World} {A:Option Addr} {n k:Nat} {l:List Ln} (h:Lines w A n l) (hk:k < n) :
  ∃ ad x,A=some ad∧l[k]? = some x∧w.cell? (ad.add (k * 3))=some (.int .i64 x.hh) ∧
   w.cell? ⟨(ad.add (k * 3)).block,(ad.add (k * 3)).off + 1,none⟩=some (.int .i64 x.cents) ∧
   w.cell? ⟨(ad.add (k * 3)).block,(ad.add (k * 3)).off + 2,none⟩=some (.int .i64 x.bl):=by
 obtain ⟨ad,x,hA,hl,hc⟩:=Lst.get (f:=Ln.cells) (s:=3) (fun _=>rfl) h hk
 refine ⟨ad,x,hA,hl,hc 0 _ (by omega) rfl,?_,?_⟩
 ·rw [←add_next _ _ _ (by omega)];exact hc 1 _ (by omega) rfl
 ·rw [←add_next _ _ _ (by omega)];exact hc 2 _ (by omega) rfl
theorem items_nil (w:World):Items w none 0 []:=⟨rfl,rfl,fun h=>absurd h (by omega)⟩
end Vt
namespace Vt
namespace K
def btw (n lo hi:Int):Bool:=decide (lo≤n) && decide (n≤hi)
def leafy (x:It):Bool:=(x.lt == -1) && (x.rt == -1)
def has (n:Nat) (i:Int):Bool:=btw i 0 ((n:Int) - 1)
def right (x:Ln):Bool:=btw x.hh 0 99 && (btw x.cents 0 1125899906842624 && btw x.bl 0 1099511627776)
end K
set_option maxHeartbeats 400000 in
theorem leaf_any (x:It) (w:World):Calls Tryz.prog 162 #[.agg #[.int .i64 x.val,.int .i64 x.bl,.int .i64 x.lt,.int .i64 x.rt]] w fun e w'=>e=.returned (.bool (K.leafy x))∧Below w.heap.size w w':=by
 cases h:(x.lt == -1)
 all_goals
  go_enter Tryz.func162,Tryz.ntmps162
  go_wp2_with fail
  go_ret
  exact ⟨ret_b (by simp [K.leafy,h]),(Below.refl _ _).alloc (Nat.le_refl _) _⟩
set_option maxHeartbeats 400000 in
theorem has_any (A:Option Addr) (n c:Nat) (i:Int) (w:World):Calls Tryz.prog 164 #[.agg #[.slice A n c],.int .i64 i] w fun e w'=>e=.returned (.bool (K.has n i))∧Below w.heap.size w w':=by
 by_cases h:0≤i
 ·go_enter Tryz.func164,Tryz.ntmps164
  go_wp2_with fail
  go_ret
  exact ⟨ret_b (by rw [Bool.eq_iff_iff];simp [K.has,K.btw];omega),(Below.refl _ _).alloc (Nat.le_refl _) _⟩
 ·have h':decide (0≤i)=false:=by simpa using h
  have hh:=Lib.hid h
  clear h
  go_enter Tryz.func164,Tryz.ntmps164
  go_wp2_with fail
  go_ret
  exact ⟨ret_b (by have:=hh.out;rw [Bool.eq_iff_iff];simp [K.has,K.btw];omega),(Below.refl _ _).alloc (Nat.le_refl _) _⟩
set_option maxHeartbeats 1000000 in
theorem right_any (x:Ln) (w:World):Calls Tryz.prog 158 #[.agg #[.int .i64 x.hh,.int .i64 x.cents,.int .i64 x.bl]] w fun e w'=>e=.returned (.bool (K.right x))∧Below w.heap.size w w':=by
 by_cases h0:0≤x.hh
 rotate_left
 ·have q:decide (0≤x.hh)=false:=by simpa using h0
  have HX:=Lib.hid (show K.right x=false by simp [K.right,K.btw];omega)
  clear h0
  go_enter Tryz.func158,Tryz.ntmps158
  go_wp2_with fail
  go_ret
  exact ⟨ret_b HX.out.symm,(Below.refl _ _).alloc (Nat.le_refl _) _⟩
 by_cases h1:x.hh < 100
 rotate_left
 ·have q:decide (x.hh < 100)=false:=by simpa using h1
  have HX:=Lib.hid (show K.right x=false by simp [K.right,K.btw];omega)
  clear h1
  go_enter Tryz.func158,Tryz.ntmps158
  go_wp2_with fail
  go_ret
  exact ⟨ret_b HX.out.symm,(Below.refl _ _).alloc (Nat.le_refl _) _⟩
 by_cases h2:0≤x.cents
 rotate_left
 ·have q:decide (0≤x.cents)=false:=by simpa using h2
  have HX:=Lib.hid (show K.right x=false by simp [K.right,K.btw];omega)
  clear h2
  go_enter Tryz.func158,Tryz.ntmps158
  go_wp2_with fail
  go_ret
  exact ⟨ret_b HX.out.symm,(Below.refl _ _).alloc (Nat.le_refl _) _⟩
 by_cases h3:x.cents≤1125899906842624
 rotate_left
 ·have q:decide (x.cents≤1125899906842624)=false:=by simpa using h3
  have HX:=Lib.hid (show K.right x=false by simp [K.right,K.btw];omega)
  clear h3
  go_enter Tryz.func158,Tryz.ntmps158
  go_wp2_with fail
  go_ret
  exact ⟨ret_b HX.out.symm,(Below.refl _ _).alloc (Nat.le_refl _) _⟩
 by_cases h4:0≤x.bl
 rotate_left
 ·have q:decide (0≤x.bl)=false:=by simpa using h4
  have HX:=Lib.hid (show K.right x=false by simp [K.right,K.btw];omega)
  clear h4
  go_enter Tryz.func158,Tryz.ntmps158
  go_wp2_with fail
  go_ret
  exact ⟨ret_b HX.out.symm,(Below.refl _ _).alloc (Nat.le_refl _) _⟩
 go_enter Tryz.func158,Tryz.ntmps158
 go_wp2_with fail
 go_ret
 exact ⟨ret_b (by rw [Bool.eq_iff_iff];simp [K.right,K.btw];omega),(Below.refl _ _).alloc (Nat.le_refl _) _⟩
end Vt
namespace Vt
namespace K
def sums (l:List It) (x:It):Bool:=match l[x.lt.toNat]?,l[x.rt.toNat]? with
 | some a,some b=>(x.val == a.val + b.val) && (x.bl == a.bl + b.bl)
 | _,_=>false
def okAt (l:List It) (i:Nat) (x:It):Bool :=
 btw x.val 0 1125899906842624 && (btw x.bl 0 1125899906842624 && (if leafy x then decide (x.bl≤1099511627776) else has i x.lt && (has i x.rt && sums l x)))
def soundFrom (l:List It):Nat→List It→Bool
 | _,[]=>true
 | i,x :: r=>okAt l i x && soundFrom l (i + 1) r
def sound (l:List It):Bool:=soundFrom l 0 l && decide (l.length≤1000)
end K
theorem K.sound_drop {l:List It} {k:Nat} {x:It} (h:l[k]? = some x):K.soundFrom l k (l.drop k)=(K.okAt l k x && K.soundFrom l (k + 1) (l.drop (k + 1))):=by
 obtain ⟨hk,e⟩:=List.getElem?_eq_some_iff.1 h
 rw [List.drop_eq_getElem_cons hk,e]
 rfl
theorem K.ok_val {l:List It} {k:Nat} {x:It} (h:¬ (0≤x.val∧x.val≤1125899906842624)):K.okAt l k x=false:=by simp [K.okAt,K.btw];omega
theorem K.ok_bl {l:List It} {k:Nat} {x:It} (h:¬ (0≤x.bl∧x.bl≤1125899906842624)):K.okAt l k x=false:=by simp [K.okAt,K.btw];omega
theorem K.ok_leaf {l:List It} {k:Nat} {x:It} (h1:0≤x.val∧x.val≤1125899906842624) (h2:0≤x.bl∧x.bl≤1125899906842624) (h:K.leafy x=true):K.okAt l k x=decide (x.bl≤1099511627776):=by simp [K.okAt,K.btw,h1,h2,h]
theorem K.ok_sum {l:List It} {k:Nat} {x:It} (h1:0≤x.val∧x.val≤1125899906842624) (h2:0≤x.bl∧x.bl≤1125899906842624) (h:K.leafy x=false):K.okAt l k x=(K.has k x.lt && (K.has k x.rt && K.sums l x)):=by simp [K.okAt,K.btw,h1,h2,h]
theorem K.has_no {n:Nat} {i:Int} (h:¬ (0≤i∧i < n)):K.has n i=false:=by simp [K.has,K.btw];omega
theorem K.has_iff {n:Nat} {i:Int}:K.has n i=true ↔ 0≤i∧i < n:=by simp [K.has,K.btw];omega
def K.amounts (a:It):Prop:=(0≤a.val∧a.val≤1125899906842624)∧(0≤a.bl∧a.bl≤1125899906842624)
def K.upTo (l:List It) (k:Nat):Prop:=∀ (i:Nat) (a:It),i < k→l[i]? = some a→K.amounts a
theorem K.upTo_next {l:List It} {k:Nat} {x:It} (h:K.upTo l k) (hx:l[k]? = some x) (ha:K.amounts x):K.upTo l (k + 1):=by
 intro i a hi hia
 by_cases e:i=k
 ·subst e;rw [hx] at hia;injection hia with hia;subst hia;exact ha
 ·exact h i a (by omega) hia
set_option maxRecDepth 100000 in
set_option maxHeartbeats 8000000 in
theorem sound_any (A:Option Addr) (n c:Nat) (l:List It) (w:World) (hl:Items w A n l) (hn:n≤1000000000000):Calls Tryz.prog 155 #[.agg #[.slice A n c]] w fun e w'=>e=.returned (.bool (K.sound l))∧Below w.heap.size w w':=by
 have b0:=(Below.refl w.heap.size w).alloc (Nat.le_refl _) (.cells #[.slice A n c] 142)
 have hP0:=(MapKept.heap_alloc w (.cells #[.slice A n c] 142)).1
 go_enter Tryz.func155,Tryz.ntmps155
 go_wp2_with fail
 obtain ⟨w0,hw0⟩:∃ w0,w0=w.alloc (.cells #[.slice A n c] 142):=⟨_,rfl⟩
 rw [←hw0] at b0 hP0 ⊢
 clear hw0
 go_loopw [10] (fun vi wr=>∃ k:Nat,vi=.int .i64 k∧k≤n∧Hid (K.soundFrom l 0 l=K.soundFrom l k (l.drop k))∧Hid (K.upTo l k)∧Below w0.heap.size w0 wr) (fun vi _=>n - (intOf vi).toNat)
 case atStart=>exact ⟨0,rfl,by omega,by show _=_;rfl,fun i a h=>absurd h (by omega),Below.refl _ _⟩
 case round =>
  obtain ⟨k,rfl,hk,hr,hup,hbr⟩:=hrel
  have hb:=b0.trans (hbr.mono b0.size)
  have hP:=blk_below hbr hP0
  have p0:=blk_cell hP 0 _ rfl
  by_cases hlt:k < n
  ·obtain ⟨ad,x,rfl,hx,c0,c1,c2,c3⟩:=Items.at_ (hl.below hb) hlt
   have HS:=Lib.hid (K.sound_drop hx)
   have HUP:=Lib.hid (fun h=>K.upTo_next hup.out hx h)
   have HK:=Lib.hid (show K.soundFrom l 0 l=true→K.sound l=decide (l.length≤1000) by intro h;simp [K.sound,h])
   have HB:=(MapKept.heap_alloc wr (.cells #[.int .i64 x.val,.int .i64 x.bl,.int .i64 x.lt,.int .i64 x.rt] 192)).1
   have ba:=(Below.refl wr.heap.size wr).alloc (Nat.le_refl _) (.cells #[.int .i64 x.val,.int .i64 x.bl,.int .i64 x.lt,.int .i64 x.rt] 192)
   have sa:=World.size_alloc wr (.cells #[.int .i64 x.val,.int .i64 x.bl,.int .i64 x.lt,.int .i64 x.rt] 192)
   clear hx
   have hba:=bel hb ba
   by_cases h0:0≤x.val
   rotate_left
   ·have q:decide (x.val < 0)=true:=by simpa using h0
    have HX:=Lib.hid (show K.sound l=false by unfold K.sound;rw [hr.out,HS.out,K.ok_val (by omega)];rfl)
    clear h0
    go_wp2_with fail
    go_ret
    exact ⟨ret_b HX.out.symm,hba⟩
   by_cases h1:x.val≤1125899906842624
   rotate_left
   ·have q:decide (1125899906842624 < x.val)=true:=by simpa using h1
    have HX:=Lib.hid (show K.sound l=false by unfold K.sound;rw [hr.out,HS.out,K.ok_val (by omega)];rfl)
    clear h1
    go_wp2_with fail
    go_ret
    exact ⟨ret_b HX.out.symm,hba⟩
   by_cases h2:0≤x.bl
   rotate_left
   ·have q:decide (x.bl < 0)=true:=by simpa using h2
    have HX:=Lib.hid (show K.sound l=false by unfold K.sound;rw [hr.out,HS.out,K.ok_bl (by omega)];rfl)
    clear h2
    go_wp2_with fail
    go_ret
    exact ⟨ret_b HX.out.symm,hba⟩
   by_cases h3:x.bl≤1125899906842624
   rotate_left
   ·have q:decide (1125899906842624 < x.bl)=true:=by simpa using h3
    have HX:=Lib.hid (show K.sound l=false by unfold K.sound;rw [hr.out,HS.out,K.ok_bl (by omega)];rfl)
    clear h3
    go_wp2_with fail
    go_ret
    exact ⟨ret_b HX.out.symm,hba⟩
   have O1:=Lib.hid (And.intro h0 h1)
   have O2:=Lib.hid (And.intro h2 h3)
   go_wp2_with fail
   refine (leaf_any x _).mono ?_
   rintro e w1 ⟨rfl,b1⟩
   have HB:=blk_below b1 HB
   have z0:=blk_cell HB 0 _ rfl
   have z1:=blk_cell HB 1 _ rfl
   have z2:=blk_cell HB 2 _ rfl
   have z3:=blk_cell HB 3 _ rfl
   have hb1:=bel ba b1
   have hbw:=bel hb hb1
   clear ba b1 hba sa
   cases hlf:K.leafy x
   rotate_left
   ·by_cases h4:x.bl≤1099511627776
    ·have HX:=Lib.hid (show K.soundFrom l 0 l=K.soundFrom l (k + 1) (l.drop (k + 1)) by rw [hr.out,HS.out,K.ok_leaf O1.out O2.out hlf];simp [h4])
     go_wp2_with fail
     go_roundw
     case rel=>exact ⟨k + 1,by go_num,by omega,HX.out,HUP.out ⟨O1.out,O2.out⟩,bel hbr hb1⟩
     case measure=>simp [intOf];omega
    ·have HX:=Lib.hid (show K.sound l=false by unfold K.sound;rw [hr.out,HS.out,K.ok_leaf O1.out O2.out hlf];simp [h4])
     have q:decide (1099511627776 < x.bl)=true:=by simpa using h4
     clear h4
     go_wp2_with fail
     go_ret
     exact ⟨ret_b HX.out.symm,hbw⟩
   have HO:=Lib.hid (K.ok_sum (l:=l) (k:=k) O1.out O2.out hlf)
   by_cases g0:0≤x.lt
   rotate_left
   ·have q:decide (x.lt < 0)=true:=by simpa using g0
    have HX:=Lib.hid (show K.sound l=false by unfold K.sound;rw [hr.out,HS.out,HO.out];rw [K.has_no (i:=x.lt) (by omega)];rfl)
    clear g0
    go_wp2_with fail
    go_ret
    exact ⟨ret_b HX.out.symm,hbw⟩
   by_cases g1:x.lt < k
   rotate_left
   ·have q:decide ((k:Int)≤x.lt)=true:=by simpa using g1
    have HX:=Lib.hid (show K.sound l=false by unfold K.sound;rw [hr.out,HS.out,HO.out];rw [K.has_no (i:=x.lt) (by omega)];rfl)
    clear g1
    go_wp2_with fail
    go_ret
    exact ⟨ret_b HX.out.symm,hbw⟩
   by_cases g2:0≤x.rt
   rotate_left
   ·have q:decide (x.rt < 0)=true:=by simpa using g2
    have HX:=Lib.hid (show K.sound l=false by unfold K.sound;rw [hr.out,HS.out,HO.out];rw [K.has_no (i:=x.rt) (by omega)];cases K.has k x.lt <;> rfl)
    clear g2
    go_wp2_with fail
    go_ret
    exact ⟨ret_b HX.out.symm,hbw⟩
   by_cases g3:x.rt < k
   rotate_left
   ·have q:decide ((k:Int)≤x.rt)=true:=by simpa using g3
    have HX:=Lib.hid (show K.sound l=false by unfold K.sound;rw [hr.out,HS.out,HO.out];rw [K.has_no (i:=x.rt) (by omega)];cases K.has k x.lt <;> rfl)
    clear g3
    go_wp2_with fail
    go_ret
    exact ⟨ret_b HX.out.symm,hbw⟩
   obtain ⟨i,hi⟩:∃ i:Nat,x.lt=i:=⟨x.lt.toNat,by omega⟩
   obtain ⟨j,hj⟩:∃ j:Nat,x.rt=j:=⟨x.rt.toNat,by omega⟩
   have hik:i < k:=by omega
   have hjk:j < k:=by omega
   have hin:i < n:=by omega
   have hjn:j < n:=by omega
   have HL:=Lib.hid (K.has_iff.2 ⟨g0,g1⟩)
   have HR:=Lib.hid (K.has_iff.2 ⟨g2,g3⟩)
   obtain ⟨ad',a,he,ha,a0,a1,a2,a3⟩:=Items.at_ (hl.below hbw) hin
   injection he with he;subst he
   obtain ⟨ad',y,he,hy,y0,y1,y2,y3⟩:=Items.at_ (hl.below hbw) hjn
   injection he with he;subst he
   have HU:=Lib.hid (show K.sums l x=((x.val == a.val + y.val) && (x.bl == a.bl + y.bl)) by
    unfold K.sums
    rw [hi,hj,Int.toNat_natCast,Int.toNat_natCast,ha,hy])
   obtain ⟨⟨ua0,ua1⟩,ua2,ua3⟩:=hup.out i a hik ha
   obtain ⟨⟨uy0,uy1⟩,uy2,uy3⟩:=hup.out j y hjk hy
   have hP1:=blk_below (bel hbr hb1) hP0
   have p1:=blk_cell hP1 0 _ rfl
   clear ha hy p0 c0 c1 c2 c3 hP
   have SS:∀ w',Below w1.heap.size w1 w'→(Below w1.heap.size w1 w'∧w'.cell? ⟨w.heap.size,0,none⟩=some (.slice (some ad) n c)∧w'.cell? ⟨wr.heap.size,2,none⟩=some (.int .i64 x.lt)∧w'.cell? ⟨wr.heap.size,3,none⟩=some (.int .i64 x.rt) ∧
     w'.cell? (ad.add (i * 4))=some (.int .i64 a.val)∧w'.cell? ⟨(ad.add (i * 4)).block,(ad.add (i * 4)).off + 1,none⟩=some (.int .i64 a.bl)∧w'.cell? ⟨(ad.add (i * 4)).block,(ad.add (i * 4)).off + 2,none⟩=some (.int .i64 a.lt)∧w'.cell? ⟨(ad.add (i * 4)).block,(ad.add (i * 4)).off + 3,none⟩=some (.int .i64 a.rt) ∧
     w'.cell? (ad.add (j * 4))=some (.int .i64 y.val)∧w'.cell? ⟨(ad.add (j * 4)).block,(ad.add (j * 4)).off + 1,none⟩=some (.int .i64 y.bl)∧w'.cell? ⟨(ad.add (j * 4)).block,(ad.add (j * 4)).off + 2,none⟩=some (.int .i64 y.lt)∧w'.cell? ⟨(ad.add (j * 4)).block,(ad.add (j * 4)).off + 3,none⟩=some (.int .i64 y.rt)):=fun w' h =>
    ⟨h,(h.cell (cell_lt p1)).trans p1,(h.cell (cell_lt z2)).trans z2,(h.cell (cell_lt z3)).trans z3,(h.cell (cell_lt a0)).trans a0,(h.cell (cell_lt a1)).trans a1,(h.cell (cell_lt a2)).trans a2,(h.cell (cell_lt a3)).trans a3,
     (h.cell (cell_lt y0)).trans y0,(h.cell (cell_lt y1)).trans y1,(h.cell (cell_lt y2)).trans y2,(h.cell (cell_lt y3)).trans y3⟩
   rw [hi,hj] at SS
   have i0:(0:Int)≤(i:Int):=by omega
   have i1:(i:Int) < (n:Int):=by omega
   have j0:(0:Int)≤(j:Int):=by omega
   have j1:(j:Int) < (n:Int):=by omega
   go_wp2_with fail
   go_region_held3 (fun w'=>Below w1.heap.size w1 w'∧w'.cell? ⟨w.heap.size,0,none⟩=some (.slice (some ad) n c)∧w'.cell? ⟨wr.heap.size,2,none⟩=some (.int .i64 i)∧w'.cell? ⟨wr.heap.size,3,none⟩=some (.int .i64 j) ∧
     w'.cell? (ad.add (i * 4))=some (.int .i64 a.val)∧w'.cell? ⟨(ad.add (i * 4)).block,(ad.add (i * 4)).off + 1,none⟩=some (.int .i64 a.bl)∧w'.cell? ⟨(ad.add (i * 4)).block,(ad.add (i * 4)).off + 2,none⟩=some (.int .i64 a.lt)∧w'.cell? ⟨(ad.add (i * 4)).block,(ad.add (i * 4)).off + 3,none⟩=some (.int .i64 a.rt) ∧
     w'.cell? (ad.add (j * 4))=some (.int .i64 y.val)∧w'.cell? ⟨(ad.add (j * 4)).block,(ad.add (j * 4)).off + 1,none⟩=some (.int .i64 y.bl)∧w'.cell? ⟨(ad.add (j * 4)).block,(ad.add (j * 4)).off + 2,none⟩=some (.int .i64 y.lt)∧w'.cell? ⟨(ad.add (j * 4)).block,(ad.add (j * 4)).off + 3,none⟩=some (.int .i64 y.rt))
    (first | assumption | exact SS _ (Below.refl _ _).drew | exact SS _ ((Below.refl _ _).alloc (Nat.le_refl _) _).drew | exact SS _ (((Below.refl _ _).alloc (Nat.le_refl _) _).alloc (by simp) _).drew)
    (first | fail)
   all_goals
    have hbe:∀ o o':Obj,Below w1.heap.size w1 ((w1.alloc o).alloc o').drew:=fun o o'=>(((Below.refl _ _).alloc (Nat.le_refl _) _).alloc (by simp) _).drew
    have zz0:∀ o o':Obj,((w1.alloc o).alloc o').drew.cell? ⟨wr.heap.size,0,none⟩=some (.int .i64 x.val):=fun o o'=>((hbe o o').cell (cell_lt z0)).trans z0
    have zz1:∀ o o':Obj,((w1.alloc o).alloc o').drew.cell? ⟨wr.heap.size,1,none⟩=some (.int .i64 x.bl):=fun o o'=>((hbe o o').cell (cell_lt z1)).trans z1
    clear SS z0 z1 z2 z3 p1 a0 a1 a2 a3 y0 y1 y2 y3 hP1
    by_cases e1:x.val=a.val + y.val
    ·have q1:(x.val != a.val + y.val)=false:=by simp [e1]
     have HE1:=Lib.hid e1
     clear e1
     by_cases e2:x.bl=a.bl + y.bl
     ·have q2:(x.bl != a.bl + y.bl)=false:=by simp [e2]
      have HX:=Lib.hid (show K.soundFrom l 0 l=K.soundFrom l (k + 1) (l.drop (k + 1)) by rw [hr.out,HS.out,HO.out,HL.out,HR.out,HU.out];simp [HE1.out,e2])
      clear e2
      go_wp2_with fail
      go_roundw
      case rel=>exact ⟨k + 1,by go_num,by omega,HX.out,HUP.out ⟨O1.out,O2.out⟩,bel hbr (bel hb1 (hbe _ _))⟩
      case measure=>simp [intOf];omega
     ·have q2:(x.bl != a.bl + y.bl)=true:=by simpa using e2
      have HX:=Lib.hid (show K.sound l=false by unfold K.sound;rw [hr.out,HS.out,HO.out,HL.out,HR.out,HU.out];simp [e2])
      clear e2
      go_wp2_with fail
      go_ret
      exact ⟨ret_b HX.out.symm,bel hbw (hbe _ _)⟩
    ·have q1:(x.val != a.val + y.val)=true:=by simpa using e1
     have HX:=Lib.hid (show K.sound l=false by unfold K.sound;rw [hr.out,HS.out,HO.out,HL.out,HR.out,HU.out];simp [e1])
     clear e1
     go_wp2_with fail
     go_ret
     exact ⟨ret_b HX.out.symm,bel hbw (hbe _ _)⟩
  ·have hd:l.drop k=[]:=List.drop_eq_nil_of_le (by rw [←hl.1];omega)
   have HX:=Lib.hid (show K.sound l=decide (n≤1000) by unfold K.sound;rw [hr.out,hd,←hl.1];rfl)
   clear hd
   go_wp2_with fail
   go_ret
   exact ⟨ret_b (by rw [HX.out,Bool.eq_iff_iff];simp;omega),hb⟩
end Vt
namespace Vt
namespace K
def opens (l:List It) (i v b:Int):Bool:=sound l && (has l.length i && (match l[i.toNat]? with
 | some x=>(x.val == v) && (x.bl == b)
 | none=>false))
def stepOk (l:List It) (p a:Int):Bool:=match l[p.toNat]? with
 | some x=>(x.lt == a) || (x.rt == a)
 | none=>false
def from_ (l:List It):Option Int→Int→Bool
 | none,_=>true
 | some p,a=>stepOk l p a
def walkFrom (l:List It):Option Int→List Int→Bool
 | _,[]=>true
 | pr,a :: r=>has l.length a && (from_ l pr a && walkFrom l (some a) r)
def walks (l:List It) (p:List Int):Bool:=sound l && (!p.isEmpty && walkFrom l none p)
def prev (p:List Int) (k:Nat):Option Int:=if k=0 then none else p[k - 1]?
end K
theorem K.walk_drop {l:List It} {p:List Int} {k:Nat} {a:Int} (h:p[k]? = some a):K.walkFrom l (K.prev p k) (p.drop k)=(K.has l.length a && (K.from_ l (K.prev p k) a && K.walkFrom l (K.prev p (k + 1)) (p.drop (k + 1)))):=by
 obtain ⟨hk,e⟩:=List.getElem?_eq_some_iff.1 h
 rw [List.drop_eq_getElem_cons hk,e]
 have e2:K.prev p (k + 1)=some a:=by unfold K.prev;rw [if_neg (by omega)];exact h
 rw [e2]
 rfl
theorem vbox (w:World) (A:Option Addr) (n c:Nat):(w.alloc (.cells #[.slice A n c] 142)).heap[w.heap.size]? = some (.cells #[.slice A n c] 142 (0,0)):=(MapKept.heap_alloc w _).1
set_option maxHeartbeats 4000000 in
theorem opens_any (A:Option Addr) (n c:Nat) (l:List It) (i v b:Int) (w:World) (hl:Items w A n l) (hn:n≤1000000000000):Calls Tryz.prog 163 #[.agg #[.slice A n c],.int .i64 i,.int .i64 v,.int .i64 b] w fun e w'=>e=.returned (.bool (K.opens l i v b))∧Below w.heap.size w w':=by
 have b0:=(Below.refl w.heap.size w).alloc (Nat.le_refl _) (.cells #[.slice A n c] 142)
 have hP:=vbox w A n c
 cases h1:K.sound l
 ·have HX:=Lib.hid (show K.opens l i v b=false by simp [K.opens,h1])
  have H1:=Lib.hid h1
  clear h1
  go_enter Tryz.func163,Tryz.ntmps163
  go_wp2_with fail
  refine (sound_any A n c l _ (hl.below b0) hn).mono ?_;rw [H1.out];rintro e w1 ⟨rfl,b1⟩
  go_wp2_with fail
  go_ret
  exact ⟨ret_b HX.out.symm,bel b0 b1⟩
 ·have H1:=Lib.hid h1
  clear h1
  cases h2:K.has n i
  ·have HX:=Lib.hid (show K.opens l i v b=false by simp [K.opens,←hl.1,h2])
   have H2:=Lib.hid h2
   clear h2
   go_enter Tryz.func163,Tryz.ntmps163
   go_wp2_with fail
   refine (sound_any A n c l _ (hl.below b0) hn).mono ?_;rw [H1.out];rintro e w1 ⟨rfl,b1⟩
   have hP:=blk_below b1 hP
   have p0:=blk_cell hP 0 _ rfl
   go_wp2_with fail
   refine (has_any A n c i _).mono ?_;rw [H2.out];rintro e w2 ⟨rfl,b2⟩
   go_wp2_with fail
   go_ret
   exact ⟨ret_b HX.out.symm,bel (bel b0 b1) b2⟩
  ·obtain ⟨i0,i1⟩:=K.has_iff.1 h2
   obtain ⟨j,rfl⟩:∃ j:Nat,i=j:=⟨i.toNat,by omega⟩
   have hjn:j < n:=by omega
   obtain ⟨ad,x,rfl,hx,_,_,_,_⟩:=Items.at_ hl hjn
   have HX:=Lib.hid (show K.opens l j v b=((x.val == v) && (x.bl == b)) by simp only [K.opens,←hl.1,h2,H1.out,Int.toNat_natCast,hx];rfl)
   have H2:=Lib.hid h2
   have HG:=Lib.hid hx
   clear h2 hx
   go_enter Tryz.func163,Tryz.ntmps163
   go_wp2_with fail
   refine (sound_any (some ad) n c l _ (hl.below b0) hn).mono ?_;rw [H1.out];rintro e w1 ⟨rfl,b1⟩
   have hP:=blk_below b1 hP
   have hb:=bel b0 b1
   clear b0 b1
   have p0:=blk_cell hP 0 _ rfl
   go_wp2_with fail
   refine (has_any (some ad) n c j _).mono ?_;rw [H2.out];rintro e w2 ⟨rfl,b2⟩
   have hP:=blk_below b2 hP
   have hb:=bel hb b2
   clear p0 b2
   have p0:=blk_cell hP 0 _ rfl
   obtain ⟨ad',x',he,hx,c0,c1,c2,c3⟩:=Items.at_ (hl.below hb) hjn
   injection he with he;subst he
   rw [HG.out] at hx;injection hx with hx;subst hx
   cases hv:(x.val == v)
   ·go_wp2_with fail
    go_ret
    exact ⟨ret_b (by rw [HX.out,hv];rfl),hb⟩
   ·go_wp2_with fail
    go_ret
    exact ⟨ret_b (by rw [HX.out,hv];rfl),hb⟩
end Vt
namespace Vt
theorem K.prev_has {l:List It} {p:List Int} {k:Nat} {a:Int} (ha:p[k]? = some a) (hh:K.has l.length a=true):∀ q,K.prev p (k + 1)=some q→K.has l.length q=true:=by
 intro q hq
 unfold K.prev at hq
 rw [if_neg (by omega),Nat.add_sub_cancel,ha] at hq
 injection hq with hq
 subst hq;exact hh
set_option maxRecDepth 100000 in
set_option maxHeartbeats 4000000 in
theorem walks_any (A:Option Addr) (n c:Nat) (l:List It) (B:Option Addr) (m d:Nat) (p:List Int) (w:World) (hl:Items w A n l) (hn:n≤1000000000000) (hp:Ints w B m p) (hm:m≤1000000000000) :
  Calls Tryz.prog 161 #[.agg #[.slice A n c],.slice B m d] w fun e w'=>e=.returned (.bool (K.walks l p))∧Below w.heap.size w w':=by
 have b0:=(Below.refl w.heap.size w).alloc (Nat.le_refl _) (.cells #[.slice A n c] 142)
 have hP0:=vbox w A n c
 cases h1:K.sound l
 ·have HX:=Lib.hid (show K.walks l p=false by simp [K.walks,h1])
  have H1:=Lib.hid h1
  clear h1
  go_enter Tryz.func161,Tryz.ntmps161
  go_wp2_with fail
  refine (sound_any A n c l _ (hl.below b0) hn).mono ?_;rw [H1.out];rintro e w1 ⟨rfl,b1⟩
  go_wp2_with fail
  go_ret
  exact ⟨ret_b HX.out.symm,bel b0 b1⟩
 ·have H1:=Lib.hid h1
  clear h1
  by_cases hm0:m=0
  ·have HX:=Lib.hid (show K.walks l p=false by
    have:p=[]:=List.length_eq_zero_iff.1 (by rw [←hp.1];exact hm0)
    subst this;simp [K.walks])
   have e0:((m:Int) == 0)=true:=by simp [hm0]
   clear hm0
   go_enter Tryz.func161,Tryz.ntmps161
   go_wp2_with fail
   refine (sound_any A n c l _ (hl.below b0) hn).mono ?_;rw [H1.out];rintro e w1 ⟨rfl,b1⟩
   go_wp2_with fail
   go_ret
   exact ⟨ret_b HX.out.symm,bel b0 b1⟩
  ·have HW:=Lib.hid (show K.walks l p=K.walkFrom l none p by
    have hne:p.isEmpty=false:=by
     cases p with
     | nil=>exact absurd hp.1 hm0
     | cons a p=>rfl
    simp [K.walks,H1.out,hne])
   have e0:((m:Int) == 0)=false:=by simp;omega
   clear hm0
   go_enter Tryz.func161,Tryz.ntmps161
   go_wp2_with fail
   refine (sound_any A n c l _ (hl.below b0) hn).mono ?_;rw [H1.out];rintro e w1 ⟨rfl,b1⟩
   have hP1:=blk_below b1 hP0
   have hb1:=bel b0 b1
   clear b0 b1 hP0
   go_wp2_with fail
   go_loopw [18] (fun vi wr=>∃ k:Nat,vi=.int .i64 k∧k≤m∧Hid (K.walkFrom l none p=K.walkFrom l (K.prev p k) (p.drop k))∧Hid (∀ q,K.prev p k=some q→K.has l.length q=true)∧Below w1.heap.size w1 wr) (fun vi _=>m - (intOf vi).toNat)
   case atStart=>exact ⟨0,rfl,by omega,by show _=_;rfl,fun q h=>by simp [K.prev] at h,Below.refl _ _⟩
   case round =>
    obtain ⟨k,rfl,hk,hr,hpr,hbr⟩:=hrel
    have hb:=bel hb1 hbr
    have hP:=blk_below hbr hP1
    have p0:=blk_cell hP 0 _ rfl
    by_cases hlt:k < m
    ·obtain ⟨adp,a,rfl,ha,c0⟩:=(hp.below hb).at_ hlt
     have HS:=Lib.hid (K.walk_drop (l:=l) ha)
     have HA:=Lib.hid ha
     clear ha
     cases hh:K.has n a
     ·have HX:=Lib.hid (show K.walks l p=false by rw [HW.out,hr.out,HS.out,←hl.1,hh];rfl)
      have HH:=Lib.hid hh
      clear hh
      go_wp2_with fail
      refine (has_any A n c a _).mono ?_;rw [HH.out];rintro e w2 ⟨rfl,b2⟩
      go_wp2_with fail
      go_ret
      exact ⟨ret_b HX.out.symm,bel hb b2⟩
     ·have HH:=Lib.hid hh
      clear hh
      have HP:=Lib.hid (K.prev_has HA.out (by rw [←hl.1];exact HH.out))
      go_wp2_with fail
      refine (has_any A n c a _).mono ?_;rw [HH.out];rintro e w2 ⟨rfl,b2⟩
      have hP:=blk_below b2 hP
      have hb:=bel hb b2
      have hbr:=bel hbr b2
      clear p0 c0 b2
      have p0:=blk_cell hP 0 _ rfl
      by_cases hk0:k=0
      ·have HX:=Lib.hid (show K.walkFrom l none p=K.walkFrom l (K.prev p (k + 1)) (p.drop (k + 1)) by
        rw [hr.out,HS.out,←hl.1,HH.out,show K.prev p k=none by simp [K.prev,hk0]];rfl)
       have hk9:decide (0 < k)=false:=by simp;omega
       clear hk0
       go_wp2_with fail
       go_roundw
       case rel=>exact ⟨k + 1,by go_num,by omega,HX.out,HP.out,hbr⟩
       case measure=>simp [intOf];omega
      ·obtain ⟨k',rfl⟩:∃ k',k=k' + 1:=⟨k - 1,by omega⟩
       obtain ⟨adp',q,he,hq,cq⟩:=(hp.below hb).at_ (show k' < m by omega)
       injection he with he;subst he
       have hpq:K.prev p (k' + 1)=some q:=by unfold K.prev;rw [if_neg (by omega)];exact hq
       have hhq:=hpr.out q hpq
       rw [←hl.1] at hhq
       obtain ⟨q0,q1⟩:=K.has_iff.1 hhq
       obtain ⟨j,rfl⟩:∃ j:Nat,q=j:=⟨q.toNat,by omega⟩
       have hjn:j < n:=by omega
       obtain ⟨ad,x,rfl,hx,x0,x1,x2,x3⟩:=Items.at_ (hl.below hb) hjn
       have HF:=Lib.hid (show K.from_ l (K.prev p (k' + 1)) a=((x.lt == a) || (x.rt == a)) by
        rw [hpq];simp only [K.from_,K.stepOk,Int.toNat_natCast,hx])
       clear hx hq hpq hhq q0 q1 hk0
       have i0:(0:Int)≤(k':Int):=by omega
       have i1:(k':Int) < (m:Int):=by omega
       have j0:(0:Int)≤(j:Int):=by omega
       have j1:(j:Int) < (n:Int):=by omega
       have SS:∀ w',Below w2.heap.size w2 w'→(Below w2.heap.size w2 w'∧w'.cell? ⟨w.heap.size,0,none⟩=some (.slice (some ad) n c)∧w'.cell? (adp.add k')=some (.int .i64 j) ∧
         w'.cell? (ad.add (j * 4))=some (.int .i64 x.val)∧w'.cell? ⟨(ad.add (j * 4)).block,(ad.add (j * 4)).off + 1,none⟩=some (.int .i64 x.bl)∧w'.cell? ⟨(ad.add (j * 4)).block,(ad.add (j * 4)).off + 2,none⟩=some (.int .i64 x.lt)∧w'.cell? ⟨(ad.add (j * 4)).block,(ad.add (j * 4)).off + 3,none⟩=some (.int .i64 x.rt)):=fun w' h =>
        ⟨h,(h.cell (cell_lt p0)).trans p0,(h.cell (cell_lt cq)).trans cq,(h.cell (cell_lt x0)).trans x0,(h.cell (cell_lt x1)).trans x1,(h.cell (cell_lt x2)).trans x2,(h.cell (cell_lt x3)).trans x3⟩
       go_wp2_with fail
       have hw1:IntKind.i64.wrap ((k':Int) + 1 - 1)=k':=by rw [IntWalk.i64_in _ (by omega)];omega
       have hw2:IntKind.i64.wrap (((k' + 1:Nat):Int) - 1)=k':=by rw [IntWalk.i64_in _ (by omega)];omega
       have hw3:IntKind.i64.wrap (k':Int)=k':=IntWalk.i64_in _ (by omega)
       clear p0 cq x0 x1 x2 x3
       go_region_held3 (fun w'=>Below w2.heap.size w2 w'∧w'.cell? ⟨w.heap.size,0,none⟩=some (.slice (some ad) n c)∧w'.cell? (adp.add k')=some (.int .i64 j) ∧
         w'.cell? (ad.add (j * 4))=some (.int .i64 x.val)∧w'.cell? ⟨(ad.add (j * 4)).block,(ad.add (j * 4)).off + 1,none⟩=some (.int .i64 x.bl)∧w'.cell? ⟨(ad.add (j * 4)).block,(ad.add (j * 4)).off + 2,none⟩=some (.int .i64 x.lt)∧w'.cell? ⟨(ad.add (j * 4)).block,(ad.add (j * 4)).off + 3,none⟩=some (.int .i64 x.rt))
        (first | assumption | exact SS _ (Below.refl _ _).drew | exact SS _ ((Below.refl _ _).alloc (Nat.le_refl _) _).drew)
        (first | fail)
       all_goals
        have hbe:∀ o:Obj,Below w2.heap.size w2 (w2.alloc o).drew:=fun o=>((Below.refl _ _).alloc (Nat.le_refl _) _).drew
        clear SS
        cases t1:(x.lt == a)
        ·have t2:(x.lt != a)=true:=by simp [bne,t1]
         cases t3:(x.rt == a)
         ·have t4:(x.rt != a)=true:=by simp [bne,t3]
          have HX:=Lib.hid (show K.walks l p=false by rw [HW.out,hr.out,HS.out,HF.out,t1,t3,←hl.1,HH.out];rfl)
          clear t1 t3
          go_wp2_with fail
          go_ret
          exact ⟨ret_b HX.out.symm,bel hb (hbe _)⟩
         ·have t4:(x.rt != a)=false:=by simp [bne,t3]
          have HX:=Lib.hid (show K.walkFrom l none p=K.walkFrom l (K.prev p (k' + 1 + 1)) (p.drop (k' + 1 + 1)) by rw [hr.out,HS.out,HF.out,t1,t3,←hl.1,HH.out];rfl)
          clear t1 t3
          go_wp2_with fail
          go_roundw
          case rel=>exact ⟨k' + 1 + 1,by go_num,by omega,HX.out,HP.out,bel hbr (hbe _)⟩
          case measure=>simp [intOf];omega
        ·have t2:(x.lt != a)=false:=by simp [bne,t1]
         have HX:=Lib.hid (show K.walkFrom l none p=K.walkFrom l (K.prev p (k' + 1 + 1)) (p.drop (k' + 1 + 1)) by rw [hr.out,HS.out,HF.out,t1,←hl.1,HH.out];rfl)
         clear t1
         go_wp2_with fail
         go_roundw
         case rel=>exact ⟨k' + 1 + 1,by go_num,by omega,HX.out,HP.out,bel hbr (hbe _)⟩
         case measure=>simp [intOf];omega
    ·have hd:p.drop k=[]:=List.drop_eq_nil_of_le (by rw [←hp.1];omega)
     have HX:=Lib.hid (show K.walks l p=true by rw [HW.out,hr.out,hd];cases K.prev p k <;> rfl)
     clear hd
     go_wp2_with fail
     go_ret
     exact ⟨ret_b HX.out.symm,hb⟩
end Vt
namespace Vt
namespace K
def leafAt (l:List It) (i:Int):Bool:=match l[i.toNat]? with
 | some x=>leafy x
 | none=>false
def check (l:List It) (p:List Int) (t b:Int) (x:Ln):Bool:=walks l p && (right x && (leafAt l (p.getLastD 0) && (opens l (p.getLastD 0) x.cents x.bl && opens l (p.headD 0) t b)))
end K
theorem K.walk_mem {l:List It}:∀ (p:List Int) (pr:Option Int),K.walkFrom l pr p=true→∀ a ∈ p,K.has l.length a=true:=by
 intro p
 induction p with
 | nil=>intro pr _ a ha;simp at ha
 | cons y p ih =>
  intro pr h a ha
  simp only [K.walkFrom,Bool.and_eq_true] at h
  rcases List.mem_cons.1 ha with rfl | ha
  ·exact h.1
  ·exact ih _ h.2.2 a ha
theorem K.walks_parts {l:List It} {p:List Int} (h:K.walks l p=true):K.sound l=true∧p ≠ []∧K.walkFrom l none p=true:=by
 simp only [K.walks,Bool.and_eq_true,Bool.not_eq_true',List.isEmpty_eq_false_iff] at h
 exact ⟨h.1,h.2.1,h.2.2⟩
theorem K.last_at {p:List Int} (h:p ≠ []):p[p.length - 1]? = some (p.getLastD 0):=by
 rw [←List.getLast?_eq_getElem?,List.getLast?_eq_some_getLast h,List.getLastD_eq_getLast?,List.getLast?_eq_some_getLast h];rfl
theorem K.head_at {p:List Int} (h:p ≠ []):p[0]? = some (p.headD 0):=by
 cases p with
 | nil=>exact absurd rfl h
 | cons a p=>rfl
set_option maxRecDepth 100000 in
set_option maxHeartbeats 4000000 in
theorem check_any (A:Option Addr) (n c:Nat) (l:List It) (B:Option Addr) (m d:Nat) (p:List Int) (t b:Int) (x:Ln) (w:World) (hl:Items w A n l) (hn:n≤1000000000000) (hp:Ints w B m p) (hm:m≤1000000000000) :
  Calls Tryz.prog 115 #[.agg #[.slice A n c],.slice B m d,.int .i64 t,.int .i64 b,.agg #[.int .i64 x.hh,.int .i64 x.cents,.int .i64 x.bl]] w fun e w'=>e=.returned (.bool (K.check l p t b x))∧Below w.heap.size w w':=by
 have b1:=(Below.refl w.heap.size w).alloc (Nat.le_refl _) (.cells #[.slice A n c] 142)
 have b0:=b1.alloc (by simp) (.cells #[.int .i64 x.hh,.int .i64 x.cents,.int .i64 x.bl] 146)
 have hP0:=blk_alloc (vbox w A n c) (.cells #[.int .i64 x.hh,.int .i64 x.cents,.int .i64 x.bl] 146)
 have sz:=World.size_alloc w (.cells #[.slice A n c] 142)
 have hX0:((w.alloc (.cells #[.slice A n c] 142)).alloc (.cells #[.int .i64 x.hh,.int .i64 x.cents,.int .i64 x.bl] 146)).heap[w.heap.size + 1]? = some (.cells #[.int .i64 x.hh,.int .i64 x.cents,.int .i64 x.bl] 146 (0,0)):=heap_alloc_at _ _ _ sz.symm
 clear b1
 cases h1:K.walks l p
 ·have HX:=Lib.hid (show K.check l p t b x=false by simp [K.check,h1])
  have H1:=Lib.hid h1
  clear h1
  go_enter Tryz.func115,Tryz.ntmps115
  go_wp2_with fail
  refine (walks_any A n c l B m d p _ (hl.below b0) hn (hp.below b0) hm).mono ?_;rw [H1.out];rintro e w1 ⟨rfl,b1⟩
  go_wp2_with fail
  go_ret
  exact ⟨ret_b HX.out.symm,bel b0 b1⟩
 ·have H1:=Lib.hid h1
  obtain ⟨hso,hne,hwk⟩:=K.walks_parts h1
  cases h2:K.right x
  ·have HX:=Lib.hid (show K.check l p t b x=false by simp [K.check,h1,h2])
   have H2:=Lib.hid h2
   clear h1 h2 hso hne hwk
   go_enter Tryz.func115,Tryz.ntmps115
   go_wp2_with fail
   refine (walks_any A n c l B m d p _ (hl.below b0) hn (hp.below b0) hm).mono ?_;rw [H1.out];rintro e w1 ⟨rfl,b1⟩
   have hX1:=blk_below b1 hX0
   have x0:=blk_cell hX1 0 _ rfl
   have x1:=blk_cell hX1 1 _ rfl
   have x2:=blk_cell hX1 2 _ rfl
   go_wp2_with fail
   refine (right_any x _).mono ?_;rw [H2.out];rintro e w2 ⟨rfl,b2⟩
   go_wp2_with fail
   go_ret
   exact ⟨ret_b HX.out.symm,bel (bel b0 b1) b2⟩
  ·have hla:=K.last_at hne
   have hhd:=K.head_at hne
   have m1:=K.walk_mem p none hwk _ (List.mem_of_getElem? hla)
   obtain ⟨u,hu⟩:∃ u,u=p.getLastD 0:=⟨_,rfl⟩
   obtain ⟨v,hv⟩:∃ v,v=p.headD 0:=⟨_,rfl⟩
   have HC:=Lib.hid (show K.check l p t b x=(K.leafAt l u && (K.opens l u x.cents x.bl && K.opens l v t b)) by rw [hu,hv];simp [K.check,h1,h2])
   rw [←hu,←hp.1] at hla
   rw [←hv] at hhd
   rw [←hu,←hl.1] at m1
   obtain ⟨u0,u1⟩:=K.has_iff.1 m1
   obtain ⟨j,rfl⟩:∃ j:Nat,u=j:=⟨u.toNat,by omega⟩
   have hjn:j < n:=by omega
   have hm0:0 < m:=by rw [hp.1];exact List.length_pos_iff.2 hne
   have HL:=Lib.hid hla
   have HH:=Lib.hid hhd
   have H2:=Lib.hid h2
   clear h1 h2 hso hne hwk hla hhd m1 u0 u1 hu hv
   go_enter Tryz.func115,Tryz.ntmps115
   go_wp2_with fail
   refine (walks_any A n c l B m d p _ (hl.below b0) hn (hp.below b0) hm).mono ?_;rw [H1.out];rintro e w1 ⟨rfl,b1⟩
   have hP1:=blk_below b1 hP0
   have hX1:=blk_below b1 hX0
   have x0:=blk_cell hX1 0 _ rfl
   have x1:=blk_cell hX1 1 _ rfl
   have x2:=blk_cell hX1 2 _ rfl
   have hb:=bel b0 b1
   clear b0 b1 hP0 hX0 sz
   go_wp2_with fail
   refine (right_any x _).mono ?_;rw [H2.out];rintro e w2 ⟨rfl,b2⟩
   have hP1:=blk_below b2 hP1
   have hX1:=blk_below b2 hX1
   have hb:=bel hb b2
   clear b2 x0 x1 x2
   have p0:=blk_cell hP1 0 _ rfl
   have x0:=blk_cell hX1 0 _ rfl
   have x1:=blk_cell hX1 1 _ rfl
   have x2:=blk_cell hX1 2 _ rfl
   obtain ⟨adp,z,rfl,hz,cl⟩:=(hp.below hb).at_ (show m - 1 < m by omega)
   rw [HL.out] at hz;injection hz with hz;subst hz
   obtain ⟨adp',z,he,hz,ch⟩:=(hp.below hb).at_ hm0
   injection he with he;subst he
   rw [HH.out] at hz;injection hz with hz;subst hz
   obtain ⟨ad,y,rfl,hy,y0,y1,y2,y3⟩:=Items.at_ (hl.below hb) hjn
   have HF:=Lib.hid (show K.leafAt l j=K.leafy y by simp only [K.leafAt,Int.toNat_natCast,hy])
   clear hy
   have hm1:((m - 1:Nat):Int)=(m:Int) - 1:=by omega
   rw [Addr.add_zero'] at ch
   have k0:(0:Int)≤(m:Int) - 1:=by omega
   have k1:(m:Int) - 1 < (m:Int):=by omega
   have d0:∀ i:Beh w2,i.val.cell? ⟨w.heap.size,0,none⟩=some (.slice (some ad) n c):=Beh.cell p0
   have dx1:∀ i:Beh w2,i.val.cell? ⟨w.heap.size + 1,1,none⟩=some (.int .i64 x.cents):=Beh.cell x1
   have dx2:∀ i:Beh w2,i.val.cell? ⟨w.heap.size + 1,2,none⟩=some (.int .i64 x.bl):=Beh.cell x2
   have dh:=Beh.cell ch
   have dy0:=Beh.cell y0
   have dy1:=Beh.cell y1
   have dy2:=Beh.cell y2
   have dy3:=Beh.cell y3
   have CL:=fun i:Beh w2=>leaf_any y i.val
   have CO:=fun i:Beh w2=>opens_any (some ad) n c l j x.cents x.bl i.val ((hl.below hb).below i.property) hn
   have CV:=fun i:Beh w2=>opens_any (some ad) n c l v t b i.val ((hl.below hb).below i.property) hn
   have j0:(0:Int)≤(j:Int):=by omega
   have j1:(j:Int) < (n:Int):=by omega
   have kk:(0:Int) < (m:Int):=by omega
   go_wp2_with fail
   clear hm1 cl ch p0 x0 x1 x2 y0 y1 y2 y3
   cases hlf:K.leafy y
   ·rw [hlf] at CL
    refine reg_beh (by kernel_rfl) (by kernel_rfl) ?_
    repeat (go_big_quiet_step ((first | (go_at_call 162;exact Beh.calls (CL _)))))
    refine wpQuiet_nil ?_
    rintro w9 ⟨⟨_,b9⟩,rfl⟩
    go_wp2_with fail
    go_ret
    exact ⟨ret_b (by rw [HC.out,HF.out,hlf];rfl),bel hb b9⟩
   ·rw [hlf] at CL
    cases ho:K.opens l j x.cents x.bl
    ·rw [ho] at CO
     refine reg_beh (by kernel_rfl) (by kernel_rfl) ?_
     repeat (go_big_quiet_step ((first | (go_at_call 162;exact Beh.calls (CL _)) | (go_at_call_of 163 x.cents;exact Beh.calls (CO _)))))
     refine wpQuiet_nil ?_
     rintro w9 ⟨⟨_,b9⟩,rfl⟩
     go_wp2_with fail
     go_ret
     exact ⟨ret_b (by rw [HC.out,HF.out,hlf,ho];rfl),bel hb b9⟩
    ·rw [ho] at CO
     refine reg_beh (by kernel_rfl) (by kernel_rfl) ?_
     repeat (go_big_quiet_step ((first | (go_at_call 162;exact Beh.calls (CL _)) | (go_at_call_of 163 x.cents;exact Beh.calls (CO _)) | (go_at_call_of 163 v;exact Beh.calls (CV _)))))
     refine wpQuiet_nil ?_
     rintro w9 ⟨⟨_,b9⟩,rfl⟩
     go_wp2_with fail
     go_ret
     exact ⟨ret_b (by rw [HC.out,HF.out,hlf,ho];rfl),bel hb b9⟩
end Vt
end Go.Proofs.YtippdjmpkafifaaGreat
