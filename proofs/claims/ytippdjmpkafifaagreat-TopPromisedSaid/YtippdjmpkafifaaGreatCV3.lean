import Derived.Test.YtippdjmpkafifaaGreatCV1
import Derived.Test.YtippdjmpkafifaaGreatCV2
import Derived.Deep.RegionLaw
import Derived.Deep.OwnRows
import Derived.Deep.LoopGhost
namespace Go.Proofs.YtippdjmpkafifaaGreat
open Go.RowKit
def roadCells (x:Ro):List Value:=[.int .i64 x.fr,.int .i64 x.tt,.int .i64 x.mins,.int .i64 x.lim]
abbrev Roads (w:World) (A:Option Addr) (n:Nat) (l:List Ro):Prop:=Lst roadCells 4 w A n l
theorem Roads.at_ {w:World} {A:Option Addr} {n k:Nat} {l:List Ro} (h:Roads w A n l) (hk:k < n) :
  ∃ ad x,A=some ad∧l[k]? = some x∧w.cell? (ad.add (k * 4))=some (.int .i64 x.fr)∧w.cell? ⟨(ad.add (k * 4)).block,(ad.add (k * 4)).off + 1,none⟩=some (.int .i64 x.tt) ∧
   w.cell? ⟨(ad.add (k * 4)).block,(ad.add (k * 4)).off + 2,none⟩=some (.int .i64 x.mins)∧w.cell? ⟨(ad.add (k * 4)).block,(ad.add (k * 4)).off + 3,none⟩=some (.int .i64 x.lim):=by
 obtain ⟨ad,x,hA,hl,hc⟩:=Lst.get (f:=roadCells) (s:=4) (fun _=>rfl) h hk
 refine ⟨ad,x,hA,hl,hc 0 _ (by omega) rfl,?_,?_,?_⟩ <;> rw [←add_next _ _ _ (by omega)]
 ·exact hc 1 _ (by omega) rfl
 ·exact hc 2 _ (by omega) rfl
 ·exact hc 3 _ (by omega) rfl
structure N where
 nodes:Int
 A:Option Addr
 n:Nat
 c:Nat
 l:List Ro
def N.val (x:N):Value:=.agg #[.int .i64 x.nodes,.slice x.A x.n x.c]
def Net (w:World) (b:Nat) (nd:Int) (A:Option Addr) (n c:Nat):Prop:=w.heap[b]? = some (.cells #[.int .i64 nd,.slice A n c] 24 (0,0))
theorem Net.new (w:World) (nd:Int) (A:Option Addr) (n c:Nat):Net (w.alloc (.cells #[.int .i64 nd,.slice A n c] 24)) w.heap.size nd A n c:=heap_alloc_new w _
theorem Net.below {w w':World} {b:Nat} {nd:Int} {A:Option Addr} {n c:Nat} (h:Net w b nd A n c) (hb:Below w.heap.size w w'):Net w' b nd A n c:=blk_below hb h
theorem Net.c0 {w:World} {b:Nat} {nd:Int} {A:Option Addr} {n c:Nat} (h:Net w b nd A n c):w.cell? ⟨b,0,none⟩=some (.int .i64 nd):=blk_cell h 0 _ rfl
theorem Net.c1 {w:World} {b:Nat} {nd:Int} {A:Option Addr} {n c:Nat} (h:Net w b nd A n c):w.cell? ⟨b,1,none⟩=some (.slice A n c):=blk_cell h 1 _ rfl
namespace K
open T
def okLim (x:Ro):Bool:=(x.lim == -1) || btw x.lim 1 1000000
def fineRoad (n:Int) (x:Ro):Bool:=btw x.fr 0 (n - 1) && (btw x.tt 0 (n - 1) && !(x.fr == x.tt))
def okRoad (x:Ro):Bool:=btw x.mins 1 1000000 && okLim x
def roadErr (n:Int):List Ro→Int
 | []=>0
 | x :: l=>if fineRoad n x=false then 1 else if okRoad x=false then 3 else roadErr n l
def netErr (nd:Int) (l:List Ro):Int:=if btw nd 0 100=false then 1 else if 600 < l.length then 6 else roadErr nd l
theorem roadErr_drop {n:Int} {l:List Ro} {k:Nat} {x:Ro} (h:l[k]? = some x):roadErr n (l.drop k)=if fineRoad n x=false then 1 else if okRoad x=false then 3 else roadErr n (l.drop (k + 1)):=by
 obtain ⟨hk,e⟩:=List.getElem?_eq_some_iff.1 h
 rw [List.drop_eq_getElem_cons hk,e]
 rfl
theorem road_cases (n:Int) (x:Ro) :
  (btw x.fr 0 (n - 1)=false∧fineRoad n x=false)∨(btw x.fr 0 (n - 1)=true∧btw x.tt 0 (n - 1)=false∧fineRoad n x=false)∨(btw x.fr 0 (n - 1)=true∧btw x.tt 0 (n - 1)=true∧(x.fr == x.tt)=true∧fineRoad n x=false) ∨
  (btw x.fr 0 (n - 1)=true∧btw x.tt 0 (n - 1)=true∧(x.fr == x.tt)=false∧fineRoad n x=true ∧
   ((btw x.mins 1 1000000=false∧okRoad x=false)∨(btw x.mins 1 1000000=true∧(x.lim != -1)=true∧(x.lim == -1)=false∧btw x.lim 1 1000000=false∧okRoad x=false) ∨
    (btw x.mins 1 1000000=true∧(x.lim != -1)=true∧(x.lim == -1)=false∧btw x.lim 1 1000000=true∧okRoad x=true)∨(btw x.mins 1 1000000=true∧(x.lim != -1)=false∧(x.lim == -1)=true∧okRoad x=true))):=by
 unfold fineRoad okRoad okLim bne
 cases btw x.fr 0 (n - 1) <;> cases btw x.tt 0 (n - 1) <;> cases (x.fr == x.tt) <;> cases btw x.mins 1 1000000 <;> cases (x.lim == -1) <;> cases btw x.lim 1 1000000 <;> simp
end K
set_option maxHeartbeats 400000 in
theorem in_any (n lo hi:Int) (w:World):Calls Tryz.prog 172 #[.int .i64 n,.int .i64 lo,.int .i64 hi] w fun e w'=>e=.returned (.bool (T.btw n lo hi))∧w=w':=by
 by_cases h:lo≤n
 ·go_enter Tryz.func172,Tryz.ntmps172
  go_wp2
  all_goals (go_ret;exact ⟨ret_b (by simp [T.btw,h]),rfl⟩)
 ·have h':decide (lo≤n)=false:=by simpa using h
  have hh:=Lib.hid h
  clear h
  go_enter Tryz.func172,Tryz.ntmps172
  go_wp2
  all_goals (go_ret;exact ⟨ret_b (by have:=hh.out;simp [T.btw];omega),rfl⟩)
set_option maxRecDepth 100000 in
set_option maxHeartbeats 4000000 in
theorem netcheck_any (nd:Int) (A:Option Addr) (n c:Nat) (l:List Ro) (w:World) (hl:Roads w A n l) (hn:n≤1000000000) :
  Calls Tryz.prog 123 #[.agg #[.int .i64 nd,.slice A n c]] w fun e w'=>e=.returned (.int .i64 (K.netErr nd l))∧Below w.heap.size w w':=by
 have b0:=(Below.refl w.heap.size w).alloc (Nat.le_refl _) (.cells #[.int .i64 nd,.slice A n c] 24)
 cases h1:T.btw nd 0 100
 ·have HX:=Lib.hid (show K.netErr nd l=1 by simp [K.netErr,h1])
  go_enter Tryz.func123,Tryz.ntmps123
  go_wp2_with (first | (go_at_call 172;refine (in_any _ _ _ _).mono ?_;rintro e w' ⟨rfl,rfl⟩) | fail)
  go_ret
  exact ⟨ret_i HX.out.symm,b0⟩
 ·by_cases h6:600 < n
  ·have HX:=Lib.hid (show K.netErr nd l=6 by simp [K.netErr,h1,←hl.1,h6])
   go_enter Tryz.func123,Tryz.ntmps123
   go_wp2_with (first | (go_at_call 172;refine (in_any _ _ _ _).mono ?_;rintro e w' ⟨rfl,rfl⟩) | fail)
   go_ret
   exact ⟨ret_i HX.out.symm,b0⟩
  ·have HX:=Lib.hid (show K.netErr nd l=K.roadErr nd l by simp [K.netErr,h1,←hl.1,h6])
   have h66:decide (600 < (n:Int))=false:=by simp;omega
   obtain ⟨hnd0,hnd1⟩:=T.btw_iff.1 h1
   have hP:=Net.new w nd A n c
   go_enter Tryz.func123,Tryz.ntmps123
   go_wp2_with (first | (go_at_call 172;refine (in_any _ _ _ _).mono ?_;rintro e w' ⟨rfl,rfl⟩) | fail)
   go_loopw [18] (fun vi wr=>∃ k:Nat,vi=.int .i64 k∧k≤n∧Hid (K.netErr nd l=K.roadErr nd (l.drop k))∧Net wr w.heap.size nd A n c∧Below w.heap.size w wr) (fun vi _=>n - (intOf vi).toNat)
   case atStart=>exact ⟨0,rfl,by omega,HX.out,hP,b0⟩
   case round =>
    obtain ⟨k,rfl,hk,hr,hP,hb⟩:=hrel
    have p0:=hP.c0
    have p1:=hP.c1
    by_cases hlt:k < n
    ·obtain ⟨ad,x,rfl,hx,c0,c1,c2,c3⟩:=Roads.at_ (hl.below hb) hlt
     have HS:=Lib.hid (K.roadErr_drop (n:=nd) hx)
     have HC:=Lib.hid (K.road_cases nd x)
     clear hx
     obtain ⟨fr,tt,mi,li⟩:=x
     simp only at HC c0 c1 c2 c3
     have ba:=hb.alloc hb.size (.cells #[.int .i64 fr,.int .i64 tt,.int .i64 mi,.int .i64 li] 134)
     have hPa:=hP.below ((Below.refl _ _).alloc (Nat.le_refl _) (.cells #[.int .i64 fr,.int .i64 tt,.int .i64 mi,.int .i64 li] 134))
     have pa0:=hPa.c0
     rcases HC.out with ⟨g1,hf⟩ | ⟨g1,g2,hf⟩ | ⟨g1,g2,g3,hf⟩ | ⟨g1,g2,g3,hf,⟨g4,ho⟩ | ⟨g4,g5,g6,g7,ho⟩ | ⟨g4,g5,g6,g7,ho⟩ | ⟨g4,g5,g6,ho⟩⟩
     iterate 3
      ·have HE:=Lib.hid (show K.netErr nd l=1 by rw [hr.out,HS.out,hf];simp)
       clear hf hr HS HC
       go_wp2_with (first | (go_at_call 172;refine (in_any _ _ _ _).mono ?_;rintro e w' ⟨rfl,rfl⟩) | fail)
       go_ret
       exact ⟨ret_i HE.out.symm,ba⟩
     iterate 2
      ·have HE:=Lib.hid (show K.netErr nd l=3 by rw [hr.out,HS.out,hf,ho];simp)
       clear hf ho hr HS HC
       go_wp2_with (first | (go_at_call 172;refine (in_any _ _ _ _).mono ?_;rintro e w' ⟨rfl,rfl⟩) | fail)
       go_ret
       exact ⟨ret_i HE.out.symm,ba⟩
     iterate 2
      ·have HE:=Lib.hid (show K.netErr nd l=K.roadErr nd (l.drop (k + 1)) by rw [hr.out,HS.out,hf,ho];simp)
       clear hf ho hr HS HC
       go_wp2_with (first | (go_at_call 172;refine (in_any _ _ _ _).mono ?_;rintro e w' ⟨rfl,rfl⟩) | fail)
       go_roundw
       case rel=>exact ⟨k + 1,by go_num,by omega,HE.out,hPa,ba⟩
       case measure=>simp [intOf];omega
    ·have HE:=Lib.hid (show K.netErr nd l=0 by rw [hr.out,List.drop_eq_nil_of_le (by rw [←hl.1];omega)];rfl)
     clear hr HX
     go_wp2_with fail
     go_ret
     exact ⟨ret_i HE.out.symm,hb⟩
set_option maxHeartbeats 400000 in
theorem carries_any (fr tt mi li:Int) (k:Int) (w:World):Calls Tryz.prog 213 #[.agg #[.int .i64 fr,.int .i64 tt,.int .i64 mi,.int .i64 li],.int .i64 k] w fun e w'=>e=.returned (.bool (G.carries ⟨fr,tt,mi,li⟩ k))∧Below w.heap.size w w':=by
 have b0:=(Below.refl w.heap.size w).alloc (Nat.le_refl _) (.cells #[.int .i64 fr,.int .i64 tt,.int .i64 mi,.int .i64 li] 134)
 cases h:(li == -1)
 ·have HX:=Lib.hid (show G.carries ⟨fr,tt,mi,li⟩ k=decide (k≤li) by simp [G.carries,h])
  go_enter Tryz.func213,Tryz.ntmps213
  go_wp2_with fail
  go_ret
  exact ⟨ret_b HX.out.symm,b0⟩
 ·have HX:=Lib.hid (show G.carries ⟨fr,tt,mi,li⟩ k=true by simp [G.carries,h])
  go_enter Tryz.func213,Tryz.ntmps213
  go_wp2_with fail
  go_ret
  exact ⟨ret_b HX.out.symm,b0⟩
theorem T.btw_node (i nd:Int):T.btw i 0 (nd - 1)=(decide (0≤i) && decide (i < nd)):=by
 unfold T.btw
 congr 1
 rw [Bool.eq_iff_iff]
 simp
 omega
set_option maxHeartbeats 400000 in
theorem rnode_any (nd:Int) (A:Option Addr) (n c:Nat) (i:Int) (w:World):Calls Tryz.prog 166 #[.agg #[.int .i64 nd,.slice A n c],.int .i64 i] w fun e w'=>e=.returned (.bool (T.btw i 0 (nd - 1)))∧Below w.heap.size w w':=by
 have b0:=(Below.refl w.heap.size w).alloc (Nat.le_refl _) (.cells #[.int .i64 nd,.slice A n c] 24)
 have HX:=Lib.hid (T.btw_node i nd)
 cases h:decide (0≤i)
 ·have HY:=Lib.hid h
  go_enter Tryz.func166,Tryz.ntmps166
  go_wp2_with fail
  go_ret
  exact ⟨ret_b (by rw [HX.out,HY.out];rfl),b0⟩
 ·have HY:=Lib.hid h
  go_enter Tryz.func166,Tryz.ntmps166
  go_wp2_with fail
  go_ret
  exact ⟨ret_b (by rw [HX.out,HY.out];rfl),b0⟩
theorem T.btw_off {x lo hi:Int} (h:T.btw x lo hi=false):x < lo∨(lo≤x∧hi < x):=by
 simp [T.btw] at h;omega
set_option maxRecDepth 100000 in
set_option maxHeartbeats 8000000 in
theorem rnetcheck_any (nd:Int) (A:Option Addr) (n c:Nat) (l:List Ro) (w:World) (hl:Roads w A n l) (hn:n≤1000000000) :
  Calls Tryz.prog 117 #[.agg #[.int .i64 nd,.slice A n c]] w fun e w'=>e=.returned (.int .i64 (K.netErr nd l))∧Below w.heap.size w w':=by
 have b0:=(Below.refl w.heap.size w).alloc (Nat.le_refl _) (.cells #[.int .i64 nd,.slice A n c] 24)
 cases h1:T.btw nd 0 100
 ·have HX:=Lib.hid (show K.netErr nd l=1 by simp [K.netErr,h1])
  rcases T.btw_off h1 with h | ⟨h,h'⟩
  all_goals
   go_enter Tryz.func117,Tryz.ntmps117
   go_wp2_with fail
   go_ret
   exact ⟨ret_i HX.out.symm,b0⟩
 ·obtain ⟨hnd0,hnd1⟩:=T.btw_iff.1 h1
  by_cases h6:600 < n
  ·have HX:=Lib.hid (show K.netErr nd l=6 by simp [K.netErr,h1,←hl.1,h6])
   go_enter Tryz.func117,Tryz.ntmps117
   go_wp2_with fail
   go_ret
   exact ⟨ret_i HX.out.symm,b0⟩
  ·have HX:=Lib.hid (show K.netErr nd l=K.roadErr nd l by simp [K.netErr,h1,←hl.1,h6])
   have h66:decide (600 < (n:Int))=false:=by simp;omega
   have hP:=Net.new w nd A n c
   go_enter Tryz.func117,Tryz.ntmps117
   go_wp2_with fail
   go_loopw [3] (fun vi wr=>∃ k:Nat,vi=.int .i64 k∧k≤n∧Hid (K.netErr nd l=K.roadErr nd (l.drop k))∧Net wr w.heap.size nd A n c∧Below w.heap.size w wr) (fun vi _=>n - (intOf vi).toNat)
   case atStart=>exact ⟨0,rfl,by omega,HX.out,hP,b0⟩
   case round =>
    obtain ⟨k,rfl,hk,hr,hP,hb⟩:=hrel
    have p0:=hP.c0
    have p1:=hP.c1
    by_cases hlt:k < n
    ·obtain ⟨ad,x,rfl,hx,c0,c1,c2,c3⟩:=Roads.at_ (hl.below hb) hlt
     have HS:=Lib.hid (K.roadErr_drop (n:=nd) hx)
     have HC:=Lib.hid (K.road_cases nd x)
     clear hx
     obtain ⟨fr,tt,mi,li⟩:=x
     simp only at HC c0 c1 c2 c3
     have hX:=heap_alloc_new wr (.cells #[.int .i64 fr,.int .i64 tt,.int .i64 mi,.int .i64 li] 134)
     have hb:=hb.alloc hb.size (.cells #[.int .i64 fr,.int .i64 tt,.int .i64 mi,.int .i64 li] 134)
     have hP:=hP.below ((Below.refl _ _).alloc (Nat.le_refl _) (.cells #[.int .i64 fr,.int .i64 tt,.int .i64 mi,.int .i64 li] 134))
     have pa0:=hP.c0
     have pa1:=hP.c1
     rcases HC.out with ⟨g1,hf⟩ | ⟨g1,g2,hf⟩ | ⟨g1,g2,g3,hf⟩ | ⟨g1,g2,g3,hf,⟨g4,ho⟩ | ⟨g4,g5,g6,g7,ho⟩ | ⟨g4,g5,g6,g7,ho⟩ | ⟨g4,g5,g6,ho⟩⟩
     iterate 3
      ·have HE:=Lib.hid (show K.netErr nd l=1 by rw [hr.out,HS.out,hf];simp)
       clear hf hr HS HC
       go_wp2_with (first | (go_at_call 166;refine (rnode_any _ _ _ _ _ _).mono ?_;rintro e w1 ⟨rfl,hb1⟩;have hP:=hP.below hb1;have hX:=blk_below hb1 hX;have hb:=bel hb hb1;have p0:=hP.c0;have p1:=hP.c1;have x0:=blk_cell hX 0 _ rfl;have x1:=blk_cell hX 1 _ rfl;have x2:=blk_cell hX 2 _ rfl;have x3:=blk_cell hX 3 _ rfl) | fail)
       go_ret
       exact ⟨ret_i HE.out.symm,hb⟩
     ·have HE:=Lib.hid (show K.netErr nd l=3 by rw [hr.out,HS.out,hf,ho];simp)
      clear hf ho hr HS HC
      rcases T.btw_off g4 with h | ⟨h,h'⟩
      all_goals
       go_wp2_with (first | (go_at_call 166;refine (rnode_any _ _ _ _ _ _).mono ?_;rintro e w1 ⟨rfl,hb1⟩;have hP:=hP.below hb1;have hX:=blk_below hb1 hX;have hb:=bel hb hb1;have p0:=hP.c0;have p1:=hP.c1;have x0:=blk_cell hX 0 _ rfl;have x1:=blk_cell hX 1 _ rfl;have x2:=blk_cell hX 2 _ rfl;have x3:=blk_cell hX 3 _ rfl) | fail)
       go_ret
       exact ⟨ret_i HE.out.symm,hb⟩
     ·have HE:=Lib.hid (show K.netErr nd l=3 by rw [hr.out,HS.out,hf,ho];simp)
      clear hf ho hr HS HC
      obtain ⟨y0,y1⟩:=T.btw_iff.1 g4
      rcases T.btw_off g7 with h | ⟨h,h'⟩
      all_goals
       go_wp2_with (first | (go_at_call 166;refine (rnode_any _ _ _ _ _ _).mono ?_;rintro e w1 ⟨rfl,hb1⟩;have hP:=hP.below hb1;have hX:=blk_below hb1 hX;have hb:=bel hb hb1;have p0:=hP.c0;have p1:=hP.c1;have x0:=blk_cell hX 0 _ rfl;have x1:=blk_cell hX 1 _ rfl;have x2:=blk_cell hX 2 _ rfl;have x3:=blk_cell hX 3 _ rfl) | fail)
       go_ret
       exact ⟨ret_i HE.out.symm,hb⟩
     ·have HE:=Lib.hid (show K.netErr nd l=K.roadErr nd (l.drop (k + 1)) by rw [hr.out,HS.out,hf,ho];simp)
      obtain ⟨y0,y1⟩:=T.btw_iff.1 g4
      obtain ⟨y2,y3⟩:=T.btw_iff.1 g7
      clear hf ho hr HS HC
      go_wp2_with (first | (go_at_call 166;refine (rnode_any _ _ _ _ _ _).mono ?_;rintro e w1 ⟨rfl,hb1⟩;have hP:=hP.below hb1;have hX:=blk_below hb1 hX;have hb:=bel hb hb1;have p0:=hP.c0;have p1:=hP.c1;have x0:=blk_cell hX 0 _ rfl;have x1:=blk_cell hX 1 _ rfl;have x2:=blk_cell hX 2 _ rfl;have x3:=blk_cell hX 3 _ rfl) | fail)
      go_roundw
      case rel=>exact ⟨k + 1,by go_num,by omega,HE.out,hP,hb⟩
      case measure=>simp [intOf];omega
     ·have HE:=Lib.hid (show K.netErr nd l=K.roadErr nd (l.drop (k + 1)) by rw [hr.out,HS.out,hf,ho];simp)
      obtain ⟨y0,y1⟩:=T.btw_iff.1 g4
      clear hf ho hr HS HC
      go_wp2_with (first | (go_at_call 166;refine (rnode_any _ _ _ _ _ _).mono ?_;rintro e w1 ⟨rfl,hb1⟩;have hP:=hP.below hb1;have hX:=blk_below hb1 hX;have hb:=bel hb hb1;have p0:=hP.c0;have p1:=hP.c1;have x0:=blk_cell hX 0 _ rfl;have x1:=blk_cell hX 1 _ rfl;have x2:=blk_cell hX 2 _ rfl;have x3:=blk_cell hX 3 _ rfl) | fail)
      go_roundw
      case rel=>exact ⟨k + 1,by go_num,by omega,HE.out,hP,hb⟩
      case measure=>simp [intOf];omega
    ·have HE:=Lib.hid (show K.netErr nd l=0 by rw [hr.out,List.drop_eq_nil_of_le (by rw [←hl.1];omega)];rfl)
     clear hr HX
     go_wp2_with fail
     go_ret
     exact ⟨ret_i HE.out.symm,hb⟩
def K.few27 (nd:Int) (n:Nat):Bool:=(decide (nd≤12) || decide (100 < nd)) && decide (n≤40)
set_option maxHeartbeats 400000 in
theorem rfew27_any (nd:Int) (A:Option Addr) (n c:Nat) (w:World):Calls Tryz.prog 63 #[.agg #[.int .i64 nd,.slice A n c]] w fun e w'=>e=.returned (.bool (K.few27 nd n))∧Below w.heap.size w w':=by
 have b0:=(Below.refl w.heap.size w).alloc (Nat.le_refl _) (.cells #[.int .i64 nd,.slice A n c] 24)
 cases h1:decide (nd≤12)
 ·cases h2:decide (100 < nd)
  ·have HX:=Lib.hid (show K.few27 nd n=false by simp [K.few27,h1,h2])
   go_enter Tryz.func63,Tryz.ntmps63
   go_wp2_with fail
   go_ret
   exact ⟨ret_b HX.out.symm,b0⟩
  ·have HX:=Lib.hid (show K.few27 nd n=decide ((n:Int)≤40) by simp only [K.few27,h1,h2];simp;omega)
   go_enter Tryz.func63,Tryz.ntmps63
   go_wp2_with fail
   go_ret
   exact ⟨ret_b HX.out.symm,b0⟩
 ·have HX:=Lib.hid (show K.few27 nd n=decide ((n:Int)≤40) by simp only [K.few27,h1];simp;omega)
  go_enter Tryz.func63,Tryz.ntmps63
  go_wp2_with fail
  go_ret
  exact ⟨ret_b HX.out.symm,b0⟩
namespace G
def ky (q:List (Int × Int)) (i:Nat):Int:=((q[i]?).getD (0,0)).1
def swap (q:List (Int × Int)) (i j:Nat):List (Int × Int):=(q.set i ((q[j]?).getD (0,0))).set j ((q[i]?).getD (0,0))
theorem swap_len (q:List (Int × Int)) (i j:Nat):(swap q i j).length=q.length:=by simp [swap]
theorem swap_perm {q:List (Int × Int)} {i j:Nat} (hi:i < q.length) (hj:j < q.length):(swap q i j).Perm q:=by
 unfold swap
 rw [List.getElem?_eq_getElem hi,List.getElem?_eq_getElem hj]
 exact List.set_set_perm hi hj
theorem swap_get {q:List (Int × Int)} {i j:Nat} (hi:i < q.length) (hj:j < q.length) (k:Nat):(swap q i j)[k]? = if k=j then q[i]? else if k=i then q[j]? else q[k]?:=by
 unfold swap
 by_cases h1:k=j
 ·subst h1
  rw [if_pos rfl,List.getElem?_set_self (by rw [List.length_set];exact hj),List.getElem?_eq_getElem hi];rfl
 ·rw [if_neg h1,List.getElem?_set_ne (Ne.symm h1)]
  by_cases h2:k=i
  ·subst h2
   rw [if_pos rfl,List.getElem?_set_self hi,List.getElem?_eq_getElem hj];rfl
  ·rw [if_neg h2,List.getElem?_set_ne (Ne.symm h2)]
theorem swap_ky {q:List (Int × Int)} {i j:Nat} (hi:i < q.length) (hj:j < q.length) (k:Nat):ky (swap q i j) k=if k=j then ky q i else if k=i then ky q j else ky q k:=by
 unfold ky
 rw [swap_get hi hj]
 split
 ·rfl
 ·split <;> rfl
def HeapN (q:List (Int × Int)) (n:Nat):Prop:=∀ k,0 < k→k < n→ky q ((k - 1) / 2)≤ky q k
theorem HeapN.first {q:List (Int × Int)} {n:Nat} (h:HeapN q n):∀ (m k:Nat),k≤m→k < n→ky q 0≤ky q k:=by
 intro m
 induction m with
 | zero=>intro k hk _;have:k=0:=by omega
         subst this;exact Int.le_refl _
 | succ m ih =>
  intro k hk hn
  by_cases h0:k=0
  ·subst h0;exact Int.le_refl _
  ·have h1:=h k (by omega) hn
   have h2:=ih ((k - 1) / 2) (by omega) (by omega)
   omega
structure UpInv (q:List (Int × Int)) (j:Nat):Prop where
 lt:j < q.length
 all:∀ k,0 < k→k < q.length→k ≠ j→ky q ((k - 1) / 2)≤ky q k
 kids:∀ k,0 < k→k < q.length→(k - 1) / 2=j→0 < j→ky q ((j - 1) / 2)≤ky q k
theorem UpInv.push {q:List (Int × Int)} (x:Int × Int) (h:HeapN q q.length):UpInv (q ++ [x]) q.length:=by
 have old:∀ k,k < q.length→ky (q ++ [x]) k=ky q k:=fun k hk=>by unfold ky;rw [List.getElem?_append_left hk]
 refine ⟨by simp,fun k h0 hk hne=>?_,fun k h0 hk hp _=>?_⟩
 ·simp at hk
  rw [old k (by omega),old _ (by omega)]
  exact h k h0 (by omega)
 ·simp at hk;omega
theorem UpInv.stop {q:List (Int × Int)} {j:Nat} (h:UpInv q j) (hs:j=0∨ky q ((j - 1) / 2)≤ky q j):HeapN q q.length:=by
 intro k h0 hk
 by_cases e:k=j
 ·subst e
  rcases hs with hs | hs
  ·omega
  ·exact hs
 ·exact h.all k h0 hk e
theorem UpInv.swap {q:List (Int × Int)} {j:Nat} (h:UpInv q j) (h0:0 < j) (hlt:ky q j < ky q ((j - 1) / 2)):UpInv (swap q ((j - 1) / 2) j) ((j - 1) / 2):=by
 have hj:=h.lt
 have hi:(j - 1) / 2 < q.length:=by omega
 obtain ⟨p,hp⟩:∃ p,p=(j - 1) / 2:=⟨_,rfl⟩
 rw [←hp] at hi hlt ⊢
 have hK:=swap_ky hi hj
 refine ⟨by rw [swap_len];exact hi,fun k k0 hk hne=>?_,fun k k0 hk hkp hp0=>?_⟩
 ·rw [swap_len] at hk
  rw [hK k,hK ((k - 1) / 2)]
  by_cases e1:k=j
  ·subst e1
   rw [if_pos rfl,←hp]
   by_cases e2:p=k
   ·omega
   ·rw [if_neg e2,if_pos rfl];omega
  ·rw [if_neg e1,if_neg hne]
   have hall:=h.all k k0 hk e1
   by_cases e2:(k - 1) / 2=j
   ·rw [if_pos e2]
    have:=h.kids k k0 hk e2 h0
    rw [←hp] at this;exact this
   ·rw [if_neg e2]
    by_cases e3:(k - 1) / 2=p
    ·rw [if_pos e3]
     rw [e3] at hall
     omega
    ·rw [if_neg e3];exact hall
 ·rw [swap_len] at hk
  rw [hK k,hK ((p - 1) / 2)]
  have e4:(p - 1) / 2 ≠ j:=by omega
  have e5:(p - 1) / 2 ≠ p:=by omega
  rw [if_neg e4,if_neg e5]
  have hpp:=h.all p hp0 hi (by omega)
  by_cases e1:k=j
  ·subst e1
   rw [if_pos rfl];exact hpp
  ·rw [if_neg e1]
   by_cases e2:k=p
   ·omega
   ·rw [if_neg e2]
    have:=h.all k k0 hk e1
    rw [hkp] at this
    omega
structure DownInv (q:List (Int × Int)) (i n:Nat):Prop where
 le:n≤q.length
 all:∀ k,0 < k→k < n→(k - 1) / 2 ≠ i→ky q ((k - 1) / 2)≤ky q k
 kids:∀ k,0 < k→k < n→(k - 1) / 2=i→0 < i→ky q ((i - 1) / 2)≤ky q k
theorem DownInv.stop {q:List (Int × Int)} {i n:Nat} (h:DownInv q i n) (hs:∀ k,0 < k→k < n→(k - 1) / 2=i→ky q i≤ky q k):HeapN q n:=by
 intro k h0 hk
 by_cases e:(k - 1) / 2=i
 ·have:=hs k h0 hk e
  rw [e];exact this
 ·exact h.all k h0 hk e
theorem DownInv.swap {q:List (Int × Int)} {i j n:Nat} (h:DownInv q i n) (hj0:0 < j) (hj:j < n) (hp:(j - 1) / 2=i) (hmin:∀ k,0 < k→k < n→(k - 1) / 2=i→ky q j≤ky q k) (hlt:ky q j < ky q i):DownInv (G.swap q i j) j n:=by
 have hnl:=h.le
 have hiq:i < q.length:=by omega
 have hjq:j < q.length:=by omega
 have hK:=swap_ky hiq hjq
 have hij:i ≠ j:=by omega
 refine ⟨by rw [swap_len];exact hnl,fun k k0 hk hne=>?_,fun k k0 hk hkp _=>?_⟩
 ·rw [hK k,hK ((k - 1) / 2),if_neg hne]
  by_cases e1:k=j
  ·subst e1
   rw [if_pos rfl,hp,if_pos rfl];omega
  ·rw [if_neg e1]
   by_cases e3:(k - 1) / 2=i
   ·rw [if_pos e3]
    by_cases e2:k=i
    ·omega
    ·rw [if_neg e2];exact hmin k k0 hk e3
   ·rw [if_neg e3]
    have hall:=h.all k k0 hk e3
    by_cases e2:k=i
    ·rw [if_pos e2]
     subst e2
     exact h.kids j hj0 hj hp k0
    ·rw [if_neg e2];exact hall
 ·rw [hK k,hK ((j - 1) / 2),hp,if_neg hij,if_pos rfl]
  have e1:k ≠ j:=by omega
  have e2:k ≠ i:=by omega
  rw [if_neg e1,if_neg e2]
  have:=h.all k k0 hk (by omega)
  rw [hkp] at this;exact this
theorem DownInv.pop {q:List (Int × Int)} {n:Nat} (h:HeapN q q.length) (hn:q.length=n + 1):DownInv (G.swap q 0 n) 0 n:=by
 have hK:=swap_ky (q:=q) (i:=0) (j:=n) (by omega) (by omega)
 refine ⟨by rw [swap_len];omega,fun k k0 hk hne=>?_,fun k _ _ _ h0=>absurd h0 (by omega)⟩
 rw [hK k,hK ((k - 1) / 2),if_neg (show ¬ k=n by omega),if_neg (show ¬ k=0 by omega),if_neg (show ¬ (k - 1) / 2=n by omega),if_neg hne]
 exact h k k0 (by omega)
theorem pop_all {q r:List (Int × Int)} {n:Nat} {x:Int × Int} (hp:r.Perm q) (hr:HeapN r n) (hn:r.length=n + 1) (hx:r[n]? = some x):q.Perm (x :: r.take n)∧HeapN (r.take n) (r.take n).length:=by
 obtain ⟨h1,e1⟩:=List.getElem?_eq_some_iff.1 hx
 have hsplit:r.take n ++ [x] = r:=by
  have:=List.take_append_drop n r
  rw [List.drop_eq_getElem_cons h1,List.drop_eq_nil_of_le (by omega),e1] at this
  exact this
 refine ⟨?_,?_⟩
 ·refine hp.symm.trans ?_
  have h2:(r.take n ++ [x]).Perm (x :: r.take n):=List.perm_append_singleton x (r.take n)
  rw [hsplit] at h2
  exact h2
 ·intro k k0 hk
  rw [List.length_take,hn] at hk
  have old:∀ i,i < n→ky (r.take n) i=ky r i:=fun i hi=>by unfold ky;rw [List.getElem?_take,if_pos hi]
  rw [old k (by omega),old _ (by omega)]
  exact hr k k0 (by omega)
end G
theorem nilchk (ts : Array TypeId) (t : TypeId) (a : Addr) (s : String) (w : World) : (Builtin.ssaWrapNilChk_ ts t #[.pointer (some a), strVal "", strVal s]).run Tryz.prog w = .ok (.pointer (some a)) w := rfl
theorem method_val {name:String} {f:Nat} (h0:(Tryz.t246.methods.find? (·.name == name)).map (fun m=>(m.path,m.func))=some (#[],some (f,false)))
  {a:Addr} {w:World} {A:Option Addr} {n c:Nat} (h:w.cell? a=some (.slice A n c)):(method 374 246 (.pointer (some a)) name).run Tryz.prog w=.ok (f,.slice A n c) w:=by
 cases em:Tryz.t246.methods.find? (·.name == name) with
 | none=>rw [em] at h0;cases h0
 | some m =>
  rw [em] at h0
  simp only [Option.map_some,Option.some.injEq,Prod.mk.injEq] at h0
  obtain ⟨hp,hf⟩:=h0
  unfold method
  simp [go_sem,em,hp,hf,follow,receiverAt,run_underlying Tryz.underlying246,h,Place.get,nilchk]
theorem ms_len : (Tryz.t246.methods.find? (·.name == "Len")).map (fun m => (m.path, m.func)) = some (#[], some (214, false)) := by kernel_rfl
theorem ms_less : (Tryz.t246.methods.find? (·.name == "Less")).map (fun m => (m.path, m.func)) = some (#[], some (235, false)) := by kernel_rfl
theorem ms_swap : (Tryz.t246.methods.find? (·.name == "Swap")).map (fun m => (m.path, m.func)) = some (#[], some (238, false)) := by kernel_rfl
theorem m_len {a : Addr} {w : World} {A : Option Addr} {n c : Nat} (h : w.cell? a = some (.slice A n c)) : (method 374 246 (.pointer (some a)) "Len").run Tryz.prog w = .ok (214, .slice A n c) w := method_val ms_len h
theorem m_less {a : Addr} {w : World} {A : Option Addr} {n c : Nat} (h : w.cell? a = some (.slice A n c)) : (method 374 246 (.pointer (some a)) "Less").run Tryz.prog w = .ok (235, .slice A n c) w := method_val ms_less h
theorem m_swap {a : Addr} {w : World} {A : Option Addr} {n c : Nat} (h : w.cell? a = some (.slice A n c)) : (method 374 246 (.pointer (some a)) "Swap").run Tryz.prog w = .ok (238, .slice A n c) w := method_val ms_swap h
theorem m_push (a : Addr) (w : World) : (method 374 246 (.pointer (some a)) "Push").run Tryz.prog w = .ok (237, .pointer (some a)) w := by kernel_rfl
theorem m_pop (a : Addr) (w : World) : (method 374 246 (.pointer (some a)) "Pop").run Tryz.prog w = .ok (236, .pointer (some a)) w := by kernel_rfl
set_option maxHeartbeats 400000 in
theorem qlen_any (A:Option Addr) (n c:Nat) (w:World):Calls Tryz.prog 214 #[.slice A n c] w fun e w'=>e=.returned (.int .i64 n)∧w=w':=by
 go_enter Tryz.func214,Tryz.ntmps214
 go_wp2_with fail
 go_ret
 exact ⟨rfl,rfl⟩
set_option maxRecDepth 100000 in
set_option maxHeartbeats 1000000 in
theorem qless_any (A:Option Addr) (n c:Nat) (q:List P) (i j:Nat) (w:World) (hq:Pairs w A n q) (hi:i < n) (hj:j < n) :
  Calls Tryz.prog 235 #[.slice A n c,.int .i64 i,.int .i64 j] w fun e w'=>e=.returned (.bool (decide (G.ky q i < G.ky q j)))∧∃ k,w'=w.drewN k:=by
 obtain ⟨ad,x,rfl,hx,x0,x1⟩:=hq.at_ hi
 obtain ⟨ad',y,e,hy,y0,y1⟩:=hq.at_ hj
 injection e with e;subst e
 have h1:G.ky q i=x.1:=by unfold G.ky;rw [hx];rfl
 have h2:G.ky q j=y.1:=by unfold G.ky;rw [hy];rfl
 have i0:(0:Int)≤(i:Int):=by omega
 have i1:(i:Int) < (n:Int):=by omega
 have j0:(0:Int)≤(j:Int):=by omega
 have j1:(j:Int) < (n:Int):=by omega
 rw [h1,h2]
 clear h1 h2 hx hy
 go_enter Tryz.func235,Tryz.ntmps235
 go_wp2_with fail
 go_quiet (fail)
 go_wp2_with fail
 go_ret
 exact ⟨rfl,_,rfl⟩
theorem blk_set {w:World} {g:Nat} {cs:Array Value} {t:TypeId} (h:w.heap[g]? = some (.cells cs t (0,0))) (i:Nat) (v:Value):(w.setCell ⟨g,i,none⟩ v).heap[g]? = some (.cells (cs.setIfInBounds i v) t (0,0)):=by
 have hlt:=lt_of_block h
 have h':w.heap[g] = .cells cs t (0,0):=by simpa [Array.getElem?_eq_getElem hlt] using h
 show (w.heap.modify g _)[g]? = _
 rw [Array.getElem?_eq_getElem (by simpa using hlt),Array.getElem_modify_self,h']
 rfl
theorem pairs_put (x:P):∀ (L:List P) (k:Nat),k < L.length→((L.flatMap pairCells).set (k * 2) (.int .i64 x.1)).set (k * 2 + 1) (.int .i64 x.2)=(L.set k x).flatMap pairCells:=by
 intro L
 induction L with
 | nil=>intro k hk;simp at hk
 | cons y L ih =>
  intro k hk
  cases k with
  | zero=>simp [pairCells]
  | succ k =>
   have h:=ih k (by simpa using hk)
   rw [show (k + 1) * 2=k * 2 + 1 + 1 by omega]
   simp only [List.flatMap_cons,pairCells,List.cons_append,List.nil_append,List.set_cons_succ] at h ⊢
   rw [h]
theorem grow_set {w w':World} {r:Option Nat} (h:w.grownBy w' r) (g i:Nat) (x:Value) (hr:r=some g):w.grownBy (w'.setCell ⟨g,i,none⟩ x) r :=
 ⟨h.os,h.tape,h.output,by show _≤(w'.heap.modify _ _).size;rw [Array.size_modify];exact h.size,fun k hk hne=>(Below.heap_setCell w' ⟨g,i,none⟩ x k (fun e=>hne (by rw [hr];exact congrArg some e))).trans (h.block k hk hne)⟩
set_option maxRecDepth 100000 in
set_option maxHeartbeats 4000000 in
theorem qswap_any (base:Nat) (v:Value) (q:List P) (i j:Nat) (w:World) (ho:w.ownsRow base 245 2 v q.length (q.flatMap pairCells)) (hi:i < q.length) (hj:j < q.length) :
  Calls Tryz.prog 238 #[v,.int .i64 i,.int .i64 j] w fun e w'=>e=.returned (.tuple #[])∧w'.ownsRow base 245 2 v q.length ((G.swap q i j).flatMap pairCells)∧w.grownBy w' v.ownBlock:=by
 obtain ⟨hl,⟨rfl,h0⟩ | ⟨g,cap,cur,rfl,hbg,hg,hnc,hcm,hsz,ht⟩⟩:=ho
 ·omega
 have hx:q[i]? = some (q[i]'hi):=List.getElem?_eq_getElem hi
 have hy:q[j]? = some (q[j]'hj):=List.getElem?_eq_getElem hj
 obtain ⟨x,hx⟩:∃ x,q[i]? = some x:=⟨_,hx⟩
 obtain ⟨y,hy⟩:∃ y,q[j]? = some y:=⟨_,hy⟩
 have get:∀ (k:Nat) (z:P),q[k]? = some z→k < q.length→cur[k * 2]? = some (.int .i64 z.1)∧cur[k * 2 + 1]? = some (.int .i64 z.2):=by
  intro k z hz hk
  have a0:=flat_get pairCells 2 (fun _=>rfl) q k z hz 0 (by omega)
  have a1:=flat_get pairCells 2 (fun _=>rfl) q k z hz 1 (by omega)
  rw [←ht,List.getElem?_take,if_pos (by omega)] at a0 a1
  simp only [Nat.add_zero] at a0
  exact ⟨by simpa [pairCells] using a0,by simpa [pairCells] using a1⟩
 obtain ⟨x0,x1⟩:=get i x hx hi
 obtain ⟨y0,y1⟩:=get j y hy hj
 have r1:=blk_set hg (i * 2) (.int .i64 y.1)
 have r2:=blk_set r1 (i * 2 + 1) (.int .i64 y.2)
 have r3:=blk_set r2 (j * 2) (.int .i64 x.1)
 have r4:=blk_set r3 (j * 2 + 1) (.int .i64 x.2)
 have ex:∀ (cs:Array Value) (k:Nat),cs.size=cur.size→k < q.length * 2→∃ z,cs[k]? = some z:=fun cs k h1 h2=>⟨_,Array.getElem?_eq_getElem (by rw [h1,hsz];have:=Nat.mul_le_mul_right 2 hnc;omega)⟩
 have c0:=blk_cell hg (i * 2) _ x0
 have c1:=blk_cell hg (i * 2 + 1) _ x1
 have d0:=blk_cell hg (j * 2) _ y0
 have d1:=blk_cell hg (j * 2 + 1) _ y1
 obtain ⟨z1,k1⟩:=ex (cur.setIfInBounds (i * 2) (.int .i64 y.1)) (j * 2) (by simp) (by omega)
 obtain ⟨z2,k2⟩:=ex (cur.setIfInBounds (i * 2) (.int .i64 y.1)) (j * 2 + 1) (by simp) (by omega)
 obtain ⟨z3,k3⟩:=ex ((cur.setIfInBounds (i * 2) (.int .i64 y.1)).setIfInBounds (i * 2 + 1) (.int .i64 y.2)) (j * 2) (by simp) (by omega)
 obtain ⟨z4,k4⟩:=ex ((cur.setIfInBounds (i * 2) (.int .i64 y.1)).setIfInBounds (i * 2 + 1) (.int .i64 y.2)) (j * 2 + 1) (by simp) (by omega)
 have e1:=blk_cell r1 (j * 2) _ k1
 have e2:=blk_cell r1 (j * 2 + 1) _ k2
 have e3:=blk_cell r2 (j * 2) _ k3
 have e4:=blk_cell r2 (j * 2 + 1) _ k4
 have i0:(0:Int)≤(i:Int):=by omega
 have i1:(i:Int) < (q.length:Int):=by omega
 have j0:(0:Int)≤(j:Int):=by omega
 have j1:(j:Int) < (q.length:Int):=by omega
 have fz:∀ k,w.frozen? ⟨g,k,none⟩=false:=fun k=>by simp [World.frozen?,hg]
 have hrow:((((cur.setIfInBounds (i * 2) (.int .i64 y.1)).setIfInBounds (i * 2 + 1) (.int .i64 y.2)).setIfInBounds (j * 2) (.int .i64 x.1)).setIfInBounds (j * 2 + 1) (.int .i64 x.2)).toList.take (q.length * 2)=(G.swap q i j).flatMap pairCells:=by
  simp only [Array.toList_setIfInBounds,List.take_set]
  rw [ht,pairs_put y q i hi,pairs_put x (q.set i y) j (by rw [List.length_set];exact hj)]
  unfold G.swap
  rw [hx,hy];rfl
 have HR:=Lib.hid hrow
 clear get ex hx hy hrow k1 k2 k3 k4 x0 x1 y0 y1 ht
 go_enter Tryz.func238,Tryz.ntmps238
 go_wp2_with fail
 go_region
 go_wp2_with fail
 refine bodyPost_end (results_none rfl _ _ _) rfl ?_
 refine ⟨rfl,⟨by rw [flat_len pairCells 2 (fun _=>rfl),G.swap_len],.inr ⟨g,cap,_,rfl,hbg,r4,hnc,hcm,by simp [hsz],HR.out⟩⟩,?_⟩
 exact grow_below (grow_set (grow_set (grow_set (grow_set (grow_refl w _) g _ _ rfl) g _ _ rfl) g _ _ rfl) g _ _ rfl) (Below.refl _ _).drew
structure Que (base qb:Nat) (w:World) (v:Value) (q:List P):Prop where
 blk:w.heap[qb]? = some (.cells #[v] 247 (0,0))
 own:w.ownsRow base 245 2 v q.length (q.flatMap pairCells)
 ne:v.ownBlock ≠ some qb
theorem Que.below {base qb:Nat} {w w':World} {v:Value} {q:List P} (h:Que base qb w v q) (hb:Below w.heap.size w w'):Que base qb w' v q:=⟨blk_below hb h.blk,own_below h.own hb,h.ne⟩
theorem Que.form {base qb:Nat} {w:World} {v:Value} {q:List P} (h:Que base qb w v q):∃ A c,v=.slice A q.length c∧Pairs w A q.length q:=by
 obtain ⟨A,c,e,hr,_⟩:=own_form h.own
 exact ⟨A,c,e,rfl,hr⟩
theorem Que.swapped {base qb:Nat} {w w':World} {v:Value} {q q':List P} (h:Que base qb w v q) (hq:q'.length=q.length) (ho:w'.ownsRow base 245 2 v q.length (q'.flatMap pairCells)) (hg:w.grownBy w' v.ownBlock):Que base qb w' v q' :=
 ⟨grow_blk hg h.blk (fun e=>h.ne e.symm),by rw [hq];exact ho,h.ne⟩
theorem grow_trans {w1 w2 w3:World} {r:Option Nat} (h:w1.grownBy w2 r) (h2:w2.grownBy w3 r):w1.grownBy w3 r :=
 ⟨h2.os.trans h.os,h2.tape.trans h.tape,h2.output.trans h.output,Nat.le_trans h.size h2.size,fun k hk hne=>(h2.block k (Nat.lt_of_lt_of_le hk h.size) hne).trans (h.block k hk hne)⟩
set_option maxRecDepth 100000 in
set_option maxHeartbeats 4000000 in
theorem up_any (base qb:Nat) (v:Value) (q:List P) (j:Nat) (w:World) (hQ:Que base qb w v q) (hn:q.length≤100000) (hu:G.UpInv q j) :
  Calls Tryz.prog 218 #[.iface 246 (.pointer (some ⟨qb,0,none⟩)),.int .i64 j] w fun e w'=>e=.returned (.tuple #[])∧(∃ q',Que base qb w' v q'∧q'.Perm q∧G.HeapN q' q'.length)∧w.grownBy w' v.ownBlock:=by
 go_enter Tryz.func218,Tryz.ntmps218
 go_wp2_with fail
 go_loopw [1] (fun vj wr=>∃ (k:Nat) (r:List P),vj=.int .i64 k∧Que base qb wr v r∧r.Perm q∧G.UpInv r k∧w.grownBy wr v.ownBlock) (fun vj _=>(intOf vj).toNat)
 case atStart=>exact ⟨j,q,rfl,hQ,List.Perm.refl _,hu,grow_refl _ _⟩
 case round =>
  obtain ⟨k,r,rfl,hR,hp,hk,hg⟩:=hrel
  have HLE:=Lib.hid hp.length_eq
  obtain ⟨A,c,rfl,hP⟩:=hR.form
  have hc:wr.cell? ⟨qb,0,none⟩=some (.slice A r.length c):=blk_cell hR.blk 0 _ rfl
  have hml:=m_less hc
  by_cases hk0:k=0
  ·subst hk0
   go_wp2_with fail
   refine bodyPost_end (results_none rfl _ _ _) rfl ?_
   exact ⟨rfl,⟨r,hR,hp,hk.stop (.inl rfl)⟩,hg⟩
  ·obtain ⟨p,hp'⟩:∃ p,p=(k - 1) / 2:=⟨_,rfl⟩
   have hpk:p < k:=by omega
   have HPP:=Lib.hid hp'
   have f1:((k:Int) - 1).tdiv 2=(p:Int):=by rw [Int.tdiv_eq_ediv_of_nonneg (by omega)];omega
   have f2:((p:Int) == (k:Int))=false:=by rw [beq_eq_false_iff_ne];omega
   have hkl:k < r.length:=hk.lt
   have hr9:r.length≤100000:=by rw [HLE.out];exact hn
   clear hp'
   go_wp2_with fail
   refine (qless_any A r.length c r k p _ hP hkl (by omega)).mono ?_
   rintro e w1 ⟨rfl,n1,hw1⟩
   have b1:Below wr.heap.size wr w1:=by rw [hw1];exact below_drewN (Below.refl _ _) _
   have hR1:=hR.below b1
   have hg1:=grow_below hg b1
   have hc1:w1.cell? ⟨qb,0,none⟩=some (.slice A r.length c):=blk_cell hR1.blk 0 _ rfl
   have hms:=m_swap hc1
   clear hw1 hml hc
   cases hd:decide (G.ky r k < G.ky r p)
   ·have hle:G.ky r ((k - 1) / 2)≤G.ky r k:=by rw [←HPP.out];simp at hd;exact hd
    clear hd
    go_wp2_with fail
    refine bodyPost_end (results_none rfl _ _ _) rfl ?_
    exact ⟨rfl,⟨r,hR1,hp,hk.stop (.inr hle)⟩,hg1⟩
   ·have hlt:G.ky r k < G.ky r ((k - 1) / 2):=by rw [←HPP.out];simpa using hd
    have hsw:=hk.swap (by omega) hlt
    rw [←HPP.out] at hsw
    clear hd
    go_wp2_with fail
    refine (qswap_any base _ r p k _ hR1.own (by omega) hkl).mono ?_
    rintro e w2 ⟨rfl,ho2,hg2⟩
    have hR2:=hR1.swapped (G.swap_len r p k) ho2 hg2
    go_wp2_with fail
    go_roundw
    case rel=>exact ⟨p,G.swap r p k,rfl,hR2,(G.swap_perm (by omega) hkl).trans hp,hsw,grow_trans hg1 hg2⟩
    case measure=>simp [intOf];omega
theorem G.swap_old {q:List P} {i j n k:Nat} (hi:i < n) (hj:j < n) (hn:n≤q.length) (hk:n≤k):(G.swap q i j)[k]? = q[k]?:=by
 rw [G.swap_get (by omega) (by omega),if_neg (by omega),if_neg (by omega)]
def Downed (base qb:Nat) (w w':World) (v:Value) (q:List P) (n:Nat) (e:Ending):Prop :=
 (∃ b,e=.returned (.bool b))∧(∃ q',Que base qb w' v q'∧q'.Perm q∧G.HeapN q' n∧∀ k,n≤k→q'[k]? = q[k]?)∧w.grownBy w' v.ownBlock
def DRel (base qb:Nat) (w wr:World) (v:Value) (q r:List P) (k n:Nat):Prop :=
 Que base qb wr v r∧r.Perm q∧G.DownInv r k n∧(∀ k,n≤k→r[k]? = q[k]?)∧w.grownBy wr v.ownBlock
theorem DRel.stop {base qb:Nat} {w wr:World} {v:Value} {q r:List P} {k n:Nat} {b:Bool} (h:DRel base qb w wr v q r k n) (hs:∀ i,0 < i→i < n→(i - 1) / 2=k→G.ky r k≤G.ky r i):Downed base qb w wr v q n (.returned (.bool b)) :=
 ⟨⟨b,rfl⟩,⟨r,h.1,h.2.1,h.2.2.1.stop hs,h.2.2.2.1⟩,h.2.2.2.2⟩
theorem DRel.below {base qb:Nat} {w wr wr':World} {v:Value} {q r:List P} {k n:Nat} (h:DRel base qb w wr v q r k n) (hb:Below wr.heap.size wr wr'):DRel base qb w wr' v q r k n :=
 ⟨h.1.below hb,h.2.1,h.2.2.1,h.2.2.2.1,grow_below h.2.2.2.2 hb⟩
theorem DRel.next {base qb:Nat} {w wr:World} {v:Value} {q r:List P} {k n j:Nat} (h:DRel base qb w wr v q r k n) (hj0:0 < j) (hj:j < n) (hp:(j - 1) / 2=k) (hmin:∀ i,0 < i→i < n→(i - 1) / 2=k→G.ky r j≤G.ky r i) (hlt:G.ky r j < G.ky r k) :
  ∀ wc:World,wc.ownsRow base 245 2 v r.length ((G.swap r k j).flatMap pairCells)→wr.grownBy wc v.ownBlock→DRel base qb w wc v q (G.swap r k j) j n:=by
 intro wc ho hg
 have hnl:=h.2.2.1.le
 exact ⟨h.1.swapped (G.swap_len r k j) ho hg,(G.swap_perm (by omega) (by omega)).trans h.2.1,h.2.2.1.swap hj0 hj hp hmin hlt,fun i hi=>(G.swap_old (n:=n) (by omega) hj hnl hi).trans (h.2.2.2.1 i hi),grow_trans h.2.2.2.2 hg⟩
set_option maxRecDepth 100000 in
set_option maxHeartbeats 8000000 in
theorem down_any (base qb:Nat) (v:Value) (q:List P) (n:Nat) (w:World) (hQ:Que base qb w v q) (hn:q.length≤100000) (hd:G.DownInv q 0 n) :
  Calls Tryz.prog 217 #[.iface 246 (.pointer (some ⟨qb,0,none⟩)),.int .i64 0,.int .i64 n] w fun e w'=>Downed base qb w w' v q n e:=by
 go_enter Tryz.func217,Tryz.ntmps217
 go_wp2_with fail
 go_loopw [7] (fun vi wr=>∃ (k:Nat) (r:List P),vi=.int .i64 k∧k≤100000∧DRel base qb w wr v q r k n) (fun vi _=>n - (intOf vi).toNat)
 case atStart=>exact ⟨0,q,rfl,by omega,hQ,List.Perm.refl _,hd,fun _ _=>rfl,grow_refl _ _⟩
 case round =>
  obtain ⟨k,r,rfl,hk9,hr⟩:=hrel
  have hlen:=hr.2.1.length_eq
  have hnl:=hr.2.2.1.le
  obtain ⟨A,c,hv,hP⟩:=hr.1.form
  have hc:wr.cell? ⟨qb,0,none⟩=some v:=blk_cell hr.1.blk 0 _ rfl
  obtain ⟨j1,hj1⟩:∃ j1:Nat,j1=2 * k + 1:=⟨_,rfl⟩
  obtain ⟨j2,hj2⟩:∃ j2:Nat,j2=2 * k + 2:=⟨_,rfl⟩
  have f1:2 * (k:Int) + 1=(j1:Int):=by omega
  have f2:(j1:Int) + 1=(j2:Int):=by omega
  have n9:n≤100000:=by omega
  have f4:decide ((j1:Int) < 0)=false:=by simp
  have J1:=Lib.hid hj1
  have J2:=Lib.hid hj2
  have HR:=Lib.hid hr
  have HL:=Lib.hid hlen
  have kids:∀ i,0 < i→i < n→(i - 1) / 2=k→i=j1∨i=j2:=fun i h0 h1 h2=>by omega
  have K:=Lib.hid kids
  subst hv
  have hml:=m_less hc
  by_cases h1:n≤j1
  ·have hs:=fun b=>DRel.stop (b:=b) hr (fun i h0 hi hp=>by rcases kids i h0 hi hp with e | e <;> omega)
   have HS:=Lib.hid hs
   clear hj1 hj2 hr hlen kids hs
   go_wp2_with fail
   go_ret
   exact HS.out _
  ·have hkn:k < n:=by omega
   have h1':j1 < n:=by omega
   have l1:j1 < r.length:=by omega
   have lk:k < r.length:=by omega
   by_cases h2:j2 < n
   ·have l2:j2 < r.length:=by omega
    clear hj1 hj2 hr hlen kids hc
    cases hdd:decide (G.ky r j2 < G.ky r j1)
    ·have hmin:∀ i,0 < i→i < n→(i - 1) / 2=k→G.ky r j1≤G.ky r i:=fun i h0 hi hp=>by
      rcases K.out i h0 hi hp with e | e
      ·subst e;exact Int.le_refl _
      ·subst e;simp at hdd;exact hdd
     have HM:=Lib.hid hmin
     clear hmin
     go_wp2_with fail
     refine (qless_any A r.length c r j2 j1 _ hP l2 l1).mono ?_
     rw [hdd]
     rintro e wa ⟨rfl,n1,hw1⟩
     have b1:Below wr.heap.size wr wa:=by rw [hw1];exact below_drewN (Below.refl _ _) _
     have hRel:=HR.out.below b1
     clear hw1 b1 hdd hml
     have hca:wa.cell? ⟨qb,0,none⟩=some (.slice A r.length c):=blk_cell hRel.1.blk 0 _ rfl
     have hmla:=m_less hca
     go_wp2_with fail
     have hPj1:=hRel.1.form
     obtain ⟨A',c',hv',hP'⟩:=hPj1
     injection hv' with e1 e2 e3
     subst e1 e3
     clear e2
     refine (qless_any A r.length c r j1 k _ hP' l1 lk).mono ?_
     rintro e wb ⟨rfl,n2,hw2⟩
     have b2:Below wa.heap.size wa wb:=by rw [hw2];exact below_drewN (Below.refl _ _) _
     have hRel:=hRel.below b2
     clear hw2 b2
     have hcb:wb.cell? ⟨qb,0,none⟩=some (.slice A r.length c):=blk_cell hRel.1.blk 0 _ rfl
     have hmsb:=m_swap hcb
     cases hde:decide (G.ky r j1 < G.ky r k)
     ·have hge:G.ky r k≤G.ky r j1:=by simp at hde;exact hde
      have hs:=fun b=>DRel.stop (b:=b) hRel (fun i h0 hi hp=>Int.le_trans hge (HM.out i h0 hi hp))
      have HS:=Lib.hid hs
      clear hs hge hde
      go_wp2_with fail
      go_ret
      exact HS.out _
     ·have hlt:G.ky r j1 < G.ky r k:=by simpa using hde
      have hnx:=hRel.next (j:=j1) (by have:=J1.out;have:=J2.out;omega) (by omega) (by have:=J1.out;have:=J2.out;omega) HM.out hlt
      have hrr:=Lib.hid hRel
      have hx:=Lib.hid hnx
      clear hnx hlt hde
      go_wp2_with fail
      refine (qswap_any base _ r k j1 _ hRel.1.own lk l1).mono ?_
      rintro e wc ⟨rfl,ho2,hg2⟩
      have hN:=hx.out wc ho2 hg2
      clear hRel hx hrr ho2 hg2
      go_wp2_with fail
      go_roundw
      case rel=>exact ⟨j1,G.swap r k j1,rfl,by omega,hN⟩
      case measure=>simp [intOf];have:=J1.out;have:=J2.out;omega
    ·have hmin:∀ i,0 < i→i < n→(i - 1) / 2=k→G.ky r j2≤G.ky r i:=fun i h0 hi hp=>by
      rcases K.out i h0 hi hp with e | e
      ·subst e;simp at hdd;omega
      ·subst e;exact Int.le_refl _
     have HM:=Lib.hid hmin
     clear hmin
     go_wp2_with fail
     refine (qless_any A r.length c r j2 j1 _ hP l2 l1).mono ?_
     rw [hdd]
     rintro e wa ⟨rfl,n1,hw1⟩
     have b1:Below wr.heap.size wr wa:=by rw [hw1];exact below_drewN (Below.refl _ _) _
     have hRel:=HR.out.below b1
     clear hw1 b1 hdd hml
     have hca:wa.cell? ⟨qb,0,none⟩=some (.slice A r.length c):=blk_cell hRel.1.blk 0 _ rfl
     have hmla:=m_less hca
     go_wp2_with fail
     have hPj2:=hRel.1.form
     obtain ⟨A',c',hv',hP'⟩:=hPj2
     injection hv' with e1 e2 e3
     subst e1 e3
     clear e2
     refine (qless_any A r.length c r j2 k _ hP' l2 lk).mono ?_
     rintro e wb ⟨rfl,n2,hw2⟩
     have b2:Below wa.heap.size wa wb:=by rw [hw2];exact below_drewN (Below.refl _ _) _
     have hRel:=hRel.below b2
     clear hw2 b2
     have hcb:wb.cell? ⟨qb,0,none⟩=some (.slice A r.length c):=blk_cell hRel.1.blk 0 _ rfl
     have hmsb:=m_swap hcb
     cases hde:decide (G.ky r j2 < G.ky r k)
     ·have hge:G.ky r k≤G.ky r j2:=by simp at hde;exact hde
      have hs:=fun b=>DRel.stop (b:=b) hRel (fun i h0 hi hp=>Int.le_trans hge (HM.out i h0 hi hp))
      have HS:=Lib.hid hs
      clear hs hge hde
      go_wp2_with fail
      go_ret
      exact HS.out _
     ·have hlt:G.ky r j2 < G.ky r k:=by simpa using hde
      have hnx:=hRel.next (j:=j2) (by have:=J1.out;have:=J2.out;omega) (by omega) (by have:=J1.out;have:=J2.out;omega) HM.out hlt
      have hrr:=Lib.hid hRel
      have hx:=Lib.hid hnx
      clear hnx hlt hde
      go_wp2_with fail
      refine (qswap_any base _ r k j2 _ hRel.1.own lk l2).mono ?_
      rintro e wc ⟨rfl,ho2,hg2⟩
      have hN:=hx.out wc ho2 hg2
      clear hRel hx hrr ho2 hg2
      go_wp2_with fail
      go_roundw
      case rel=>exact ⟨j2,G.swap r k j2,rfl,by omega,hN⟩
      case measure=>simp [intOf];have:=J1.out;have:=J2.out;omega
   ·have hmin:∀ i,0 < i→i < n→(i - 1) / 2=k→G.ky r j1≤G.ky r i:=fun i h0 hi hp=>by
     rcases K.out i h0 hi hp with e | e
     ·subst e;exact Int.le_refl _
     ·omega
    have HM:=Lib.hid hmin
    have hRel:=HR.out
    clear hmin hj1 hj2 hr hlen kids
    go_wp2_with fail
    have hPj1:=hRel.1.form
    obtain ⟨A',c',hv',hP'⟩:=hPj1
    injection hv' with e1 e2 e3
    subst e1 e3
    clear e2
    refine (qless_any A r.length c r j1 k _ hP' l1 lk).mono ?_
    rintro e wb ⟨rfl,n2,hw2⟩
    have b2:Below wr.heap.size wr wb:=by rw [hw2];exact below_drewN (Below.refl _ _) _
    have hRel:=hRel.below b2
    clear hw2 b2
    have hcb:wb.cell? ⟨qb,0,none⟩=some (.slice A r.length c):=blk_cell hRel.1.blk 0 _ rfl
    have hmsb:=m_swap hcb
    cases hde:decide (G.ky r j1 < G.ky r k)
    ·have hge:G.ky r k≤G.ky r j1:=by simp at hde;exact hde
     have hs:=fun b=>DRel.stop (b:=b) hRel (fun i h0 hi hp=>Int.le_trans hge (HM.out i h0 hi hp))
     have HS:=Lib.hid hs
     clear hs hge hde
     go_wp2_with fail
     go_ret
     exact HS.out _
    ·have hlt:G.ky r j1 < G.ky r k:=by simpa using hde
     have hnx:=hRel.next (j:=j1) (by have:=J1.out;have:=J2.out;omega) (by omega) (by have:=J1.out;have:=J2.out;omega) HM.out hlt
     have hrr:=Lib.hid hRel
     have hx:=Lib.hid hnx
     clear hnx hlt hde
     go_wp2_with fail
     refine (qswap_any base _ r k j1 _ hRel.1.own lk l1).mono ?_
     rintro e wc ⟨rfl,ho2,hg2⟩
     have hN:=hx.out wc ho2 hg2
     clear hRel hx hrr ho2 hg2
     go_wp2_with fail
     go_roundw
     case rel=>exact ⟨j1,G.swap r k j1,rfl,by omega,hN⟩
     case measure=>simp [intOf];have:=J1.out;have:=J2.out;omega
theorem Tryz.info245:(Tryz.prog.info? 245).map (fun i=>(i.zero,i.size,i.bytes))=some (some (.agg #[.int .i64 0,.int .i64 0]),2,16):=by kernel_rfl
theorem pairs_one (t n:Int):∀ u ∈ ([.int .i64 t,.int .i64 n]:List Value),u.oneCell'=true:=by
 intro u hu
 simp at hu
 rcases hu with rfl | rfl <;> rfl
theorem assert128 (x:Value) (w:World):(Instr.typeAssert (.iface 245 x) 20 245 true).run Tryz.prog w=.ok (.tuple #[x,.bool true]) w:=by kernel_rfl
def Away (qb g:Nat) (w:World):Prop:=g ≠ qb∧g < w.heap.size∧∀ v,w.heap[qb]? = some (.cells #[v] 247 (0,0))→v.ownBlock ≠ some g
def Keeps (qb:Nat) (w w':World):Prop:=∀ g,Away qb g w→w'.heap[g]? = w.heap[g]?∧Away qb g w'
theorem Keeps.refl (qb:Nat) (w:World):Keeps qb w w:=fun _ h=>⟨rfl,h⟩
theorem Keeps.trans {qb:Nat} {w1 w2 w3:World} (h:Keeps qb w1 w2) (h2:Keeps qb w2 w3):Keeps qb w1 w3:=fun g hg=>by
 obtain ⟨e1,a1⟩:=h g hg
 obtain ⟨e2,a2⟩:=h2 g a1
 exact ⟨e2.trans e1,a2⟩
theorem Keeps.below {qb:Nat} {w w':World} (hq:qb < w.heap.size) (hb:Below w.heap.size w w'):Keeps qb w w':=fun g ⟨h1,h2,h3⟩ =>
 ⟨hb.block g h2,h1,Nat.lt_of_lt_of_le h2 hb.size,fun v hv=>h3 v (by rw [←hb.block qb hq];exact hv)⟩
theorem Que.one {base qb:Nat} {w:World} {v u:Value} {q:List P} (h:Que base qb w v q) (hu:w.heap[qb]? = some (.cells #[u] 247 (0,0))):u=v:=by
 rw [h.blk] at hu
 injection hu with hu;injection hu with hu
 simpa using hu.symm
theorem Keeps.grown {base qb:Nat} {w w':World} {v:Value} {q q':List P} (h:Que base qb w v q) (h':Que base qb w' v q') (hg:w.grownBy w' v.ownBlock):Keeps qb w w':=fun g ⟨h1,h2,h3⟩ =>
 ⟨hg.block g h2 (fun e=>h3 v h.blk e.symm),h1,Nat.lt_of_lt_of_le h2 hg.size,fun u hu=>by rw [h'.one hu];exact h3 v h.blk⟩
theorem Keeps.set {base qb:Nat} {w w' w4:World} {v v':Value} {q q':List P} (h:Que base qb w v q) (h':Que base qb w' v' q') (hs:w.heap.size≤w'.heap.size) (hold:∀ g,Away qb g w→w4.heap[g]? = w.heap[g]?) (hw:∀ g,g ≠ qb→w'.heap[g]? = w4.heap[g]?)
  (hv:∀ g,v'.ownBlock=some g→v.ownBlock=some g∨w.heap.size≤g):Keeps qb w w':=fun g ⟨h1,h2,h3⟩ =>
 ⟨(hw g h1).trans (hold g ⟨h1,h2,h3⟩),h1,Nat.lt_of_lt_of_le h2 hs,fun u hu=>by
  rw [h'.one hu]
  intro e
  rcases hv g e with hv | hv
  ·exact h3 v h.blk hv
  ·omega⟩
def Pushed (base qb:Nat) (w w':World) (q:List P):Prop:=(∃ v',Que base qb w' v' q)∧Below base w w'∧Keeps qb w w'
theorem que_lt {base qb:Nat} {w:World} {v:Value} {q:List P} (h:Que base qb w v q):qb < w.heap.size:=(Array.getElem?_eq_some_iff.1 h.blk).1
theorem pushed_mk {base qb:Nat} {v:Value} {q:List P} {t n:Int} {w w1 w4:World} {g4 cap4:Nat} (hQ:Que base qb w v q) (hQ1:Que base qb w1 v q) (b1:Below w.heap.size w w1) (hsz:w1.heap.size=w.heap.size + 1) (hb:base≤qb) (hlt:qb < w.heap.size)
  (hown4:w4.ownsRow base 245 2 (.slice (some ⟨g4,0,none⟩) (q.length + 1) cap4) (q.length + 1) (q.flatMap pairCells ++ [.int .i64 t,.int .i64 n])) (hgrow4:(w1.alloc (.cells #[.int .i64 t,.int .i64 n] 245)).drew.grownBy w4 v.ownBlock)
  (hlies:v.ownBlock=some g4∨g4=w1.heap.size + 1) (hV4:w4.heap[qb]? = some (.cells #[v] 247 (0,0))) :
  Pushed base qb w (w4.setCell ⟨qb,0,none⟩ (.slice (some ⟨g4,0,none⟩) (q.length + 1) cap4)) (q ++ [(t,n)]):=by
 have hne:some g4 ≠ some qb:=fun e=>by
  injection e with e
  rcases hlies with h | h
  ·exact hQ1.ne (by rw [h,e])
  ·omega
 have hm:base≤w.heap.size:=by omega
 have hQ4:Que base qb (w4.setCell ⟨qb,0,none⟩ (.slice (some ⟨g4,0,none⟩) (q.length + 1) cap4)) (.slice (some ⟨g4,0,none⟩) (q.length + 1) cap4) (q ++ [(t,n)]):=by
  refine ⟨blk_set hV4 0 _,?_,hne⟩
  have h:=ownsRow_setCell_other hown4 (a:=⟨qb,0,none⟩) (show (some g4:Option Nat) ≠ some qb from hne) (.slice (some ⟨g4,0,none⟩) (q.length + 1) cap4)
  simpa [pairCells] using h
 refine ⟨⟨_,hQ4⟩,?_,?_⟩
 ·have h0:Below base w w1:=b1.mono hm
  have h1:Below base w (w1.alloc (.cells #[.int .i64 t,.int .i64 n] 245)).drew:=(h0.alloc (by omega) _).drew
  have h2:Below base w w4:=h1.grown hgrow4 (by show base≤(w1.alloc _).heap.size;rw [World.size_alloc];omega) (fun g h=>(hQ1.own.lt g h).1)
  exact h2.setCell hb _
 ·have hs4:=hgrow4.size
  have hs1:(w1.alloc (.cells #[.int .i64 t,.int .i64 n] 245)).drew.heap.size=w1.heap.size + 1:=by show (w1.alloc _).heap.size=_;rw [World.size_alloc]
  refine Keeps.set (w4:=w4) hQ hQ4 (by show w.heap.size≤(w4.heap.modify _ _).size;rw [Array.size_modify];omega) (fun g ⟨h1,h2,h3⟩=>?_) (fun g hg=>Below.heap_setCell w4 ⟨qb,0,none⟩ _ g hg) (fun g e=>?_)
  ·refine (hgrow4.block g (by omega) (fun e=>h3 v hQ.blk e.symm)).trans ?_
   exact (((Below.refl w1.heap.size w1).alloc (Nat.le_refl _) (.cells #[.int .i64 t,.int .i64 n] 245)).drew.block g (by omega)).trans (b1.block g h2)
  ·injection e with e
   rcases hlies with hl | hl
   ·exact .inl (by rw [hl];exact congrArg some e)
   ·right;dsimp only at e;omega
set_option maxRecDepth 100000 in
set_option maxHeartbeats 8000000 in
theorem qpush_any (base qb:Nat) (v:Value) (q:List P) (t n:Int) (w:World) (hQ:Que base qb w v q) (hn:q.length≤100000) (hb:base≤qb) :
  Calls Tryz.prog 237 #[.pointer (some ⟨qb,0,none⟩),.iface 245 (.agg #[.int .i64 t,.int .i64 n])] w fun e w'=>e=.returned (.tuple #[])∧Pushed base qb w w' (q ++ [(t,n)]):=by
 have hlt:=que_lt hQ
 obtain ⟨w1,hw1⟩:∃ w1:World,w1=w.alloc (.cells #[.int .i64 t,.int .i64 n] 245):=⟨_,rfl⟩
 have SZ:w1.heap.size=w.heap.size + 1:=by rw [hw1];exact World.size_alloc _ _
 have b1:Below w.heap.size w w1:=by rw [hw1];exact (Below.refl _ _).alloc (Nat.le_refl _) _
 have hQ1:=hQ.below b1
 have hB1:w1.heap[w.heap.size]? = some (.cells #[.int .i64 t,.int .i64 n] 245 (0,0)):=by rw [hw1];exact heap_alloc_new w _
 have c0:=blk_cell hB1 0 _ rfl
 have c1:=blk_cell hB1 1 _ rfl
 have cq:w1.cell? ⟨qb,0,none⟩=some v:=blk_cell hQ1.blk 0 _ rfl
 have own1:∀ y:Int,((w1.alloc (.cells #[.int .i64 y,.int .i64 n] 245)).drew).ownsRow base 245 2 v q.length (q.flatMap pairCells):=fun y=>own_below hQ1.own (((Below.refl _ _).alloc (Nat.le_refl _) _).drew)
 have new1:∀ j u,([.int .i64 t,.int .i64 n]:List Value)[j]? = some u→((w1.alloc (.cells #[.int .i64 t,.int .i64 n] 245)).drew).cell? ((⟨w1.heap.size,0,none⟩:Addr).add j)=some u:=World.news_of_block (heap_alloc_new w1 _)
 have le1:q.length + 1≤maxLen:=by unfold maxLen;omega
 have le2:(q.length + 1) * 16≤140737488355328:=by omega
 have le3:base≤((w1.alloc (.cells #[.int .i64 t,.int .i64 n] 245)).drew).heap.size:=by
  show base≤(w1.alloc _).heap.size
  rw [World.size_alloc];omega
 have HZ:((w1.alloc (.cells #[.int .i64 t,.int .i64 n] 245)).drew).heap.size=w1.heap.size + 1:=by
  show (w1.alloc _).heap.size=_
  rw [World.size_alloc]
 have hblk1:((w1.alloc (.cells #[.int .i64 t,.int .i64 n] 245)).drew).heap[qb]? = some (.cells #[v] 247 (0,0)):=blk_alloc hQ1.blk _
 have cqa:(w1.alloc (.cells #[.int .i64 t,.int .i64 n] 245)).cell? ⟨qb,0,none⟩=some v:=blk_cell (blk_alloc hQ1.blk _) 0 _ rfl
 obtain ⟨i0,hi,hz0,hz1,hz2⟩:=info_parts Tryz.info245
 have HB1:=Lib.hid b1
 have HQ0:=Lib.hid hQ
 have has:=fun w'=>assert128 (.agg #[.int .i64 t,.int .i64 n]) w'
 go_enter Tryz.func237,Tryz.ntmps237
 go_wp2_with fail
 rw [←hw1]
 have HSZ:=Lib.hid SZ
 clear hw1 hQ SZ
 go_region_law (refine step_append_lies _ rfl (.tmp 15) (.tmp 17) 247 rfl base 245 i0 (.agg #[.int .i64 0,.int .i64 0]) 2 16 Tryz.underlying247 hi hz0 hz1 hz2 rfl (by decide) v q.length (q.flatMap pairCells) rfl (own1 _) ⟨w1.heap.size,0,none⟩ 1 1 [.int .i64 t,.int .i64 n] rfl rfl new1 (pairs_one t n) Nat.one_pos le1 le2 le3 _ HZ ?_;intro g4 cap4 w4 hown4 hgrow4 hlies hlt4;have hV4:=grow_blk hgrow4 hblk1 (fun e=>hQ1.ne e.symm);have v40:=blk_cell hV4 0 _ rfl;have vf4:w4.frozen? ⟨qb,0,none⟩=false:=by simp [World.frozen?,hV4])
 all_goals go_wp2_with fail
 all_goals
  refine bodyPost_end (results_none rfl _ _ _) rfl ?_
  exact ⟨rfl,pushed_mk HQ0.out hQ1 HB1.out HSZ.out hb hlt hown4 hgrow4 hlies hV4⟩
theorem que_cut {base qb:Nat} {A:Option Addr} {n c:Nat} {w:World} {q:List P} (hQ:Que base qb w (.slice A (n + 1) c) q) (hn:q.length=n + 1):Que base qb (w.setCell ⟨qb,0,none⟩ (.slice A n c)) (.slice A n c) (q.take n):=by
 have ho:=hQ.own
 rw [hn] at ho
 obtain ⟨hl,⟨h1,h0⟩ | ⟨g,cap,cur,hv,hbg,hg,hnc,hcm,hsz,ht⟩⟩:=ho
 ·omega
 injection hv with e1 e2 e3
 subst e1 e3
 have hne:g ≠ qb:=fun e=>hQ.ne (by subst e;rfl)
 have hg':(w.setCell ⟨qb,0,none⟩ (.slice (some ⟨g,0,none⟩) n c)).heap[g]? = some (.cells cur 245 (0,0)):=(Below.heap_setCell w ⟨qb,0,none⟩ _ g hne).trans hg
 refine ⟨blk_set hQ.blk 0 _,?_,fun e=>hQ.ne (by exact e)⟩
 have hlen:(q.take n).length=n:=by rw [List.length_take];omega
 rw [hlen]
 refine ⟨by rw [flat_len pairCells 2 (fun _=>rfl),hlen],.inr ⟨g,c,cur,rfl,hbg,hg',by omega,hcm,hsz,?_⟩⟩
 have e:cur.toList.take (n * 2)=(q.flatMap pairCells).take (n * 2):=by rw [←ht,List.take_take];congr 1;omega
 rw [e]
 have key:∀ (l:List P) (k:Nat),(l.flatMap pairCells).take (k * 2)=(l.take k).flatMap pairCells:=by
  intro l
  induction l with
  | nil=>intro k;simp
  | cons x l ih =>
   intro k
   cases k with
   | zero=>simp
   | succ k =>
    rw [show (k + 1) * 2=k * 2 + 1 + 1 by omega]
    simp [pairCells,ih k]
 exact key q n
set_option maxRecDepth 100000 in
set_option maxHeartbeats 8000000 in
theorem qpop_any (base qb:Nat) (v:Value) (q:List P) (n:Nat) (x:P) (w:World) (hQ:Que base qb w v q) (hq:q.length=n + 1) (hx:q[n]? = some x) (hn:q.length≤100000) (hb:base≤qb) :
  Calls Tryz.prog 236 #[.pointer (some ⟨qb,0,none⟩)] w fun e w'=>e=.returned (.iface 245 (.agg #[.int .i64 x.1,.int .i64 x.2]))∧Pushed base qb w w' (q.take n):=by
 obtain ⟨A,c,hv,hP⟩:=hQ.form
 rw [hq] at hv hP
 subst hv
 obtain ⟨ad,y,rfl,hy,y0,y1⟩:=hP.at_ (show n < n + 1 by omega)
 rw [hx] at hy
 injection hy with hy
 subst hy
 have hlt:=que_lt hQ
 have c0:w.cell? ⟨qb,0,none⟩=some (.slice (some ad) (n + 1) c):=blk_cell hQ.blk 0 _ rfl
 have n9:n≤100000:=by omega
 have hcn:n≤c:=by
  have ho:=hQ.own
  obtain ⟨hl,⟨h1,h0⟩ | ⟨g,cap,cur,hv,hbg,hg,hnc,hcm,hsz,ht⟩⟩:=ho
  ·injection h1 with h1;cases h1
  ·injection hv with _ _ e3
   omega
 have hfz:w.frozen? ⟨qb,0,none⟩=false:=by simp [World.frozen?,hQ.blk]
 have HQ:=Lib.hid hQ
 have HL:=Lib.hid hq
 clear hQ hq hx
 go_enter Tryz.func236,Tryz.ntmps236
 go_wp2_with fail
 go_ret
 have hC:=(que_cut HQ.out HL.out).below ((Below.refl _ _).alloc (Nat.le_refl _) (.cells #[.int .i64 x.1,.int .i64 x.2] 245))
 have hsz:(w.setCell ⟨qb,0,none⟩ (.slice (some ad) n c)).heap.size=w.heap.size:=by show (w.heap.modify _ _).size=_;rw [Array.size_modify]
 refine ⟨rfl,⟨_,hC⟩,?_,Keeps.set (w4:=w.alloc (.cells #[.int .i64 x.1,.int .i64 x.2] 245)) HQ.out hC (by rw [World.size_alloc,hsz];omega) (fun g h=>Below.heap_alloc w _ g h.2.1) (fun g hg=>?_) (fun g e=>.inl e)⟩
 ·exact (((Below.refl _ _).setCell hb _).alloc (by show base≤(w.heap.modify _ _).size;rw [Array.size_modify];omega) _)
 ·by_cases hgl:g < w.heap.size
  ·rw [Below.heap_alloc _ _ g (by rw [hsz];exact hgl),Below.heap_alloc w _ g hgl]
   exact Below.heap_setCell w ⟨qb,0,none⟩ _ g hg
  ·by_cases e:g=w.heap.size
   ·subst e
    rw [heap_alloc_at _ _ _ hsz.symm,heap_alloc_new]
   ·rw [Array.getElem?_eq_none (by rw [World.size_alloc,hsz];omega),Array.getElem?_eq_none (by rw [World.size_alloc];omega)]
def Heaped (base qb:Nat) (w:World) (q:List P):Prop:=∃ v,Que base qb w v q∧G.HeapN q q.length
theorem pushed_up {base qb:Nat} {w w1 w':World} {q q':List P} {x:P} {v:Value} (hb1:Below base w w1) (hk:Keeps qb w w1) (hs:base≤w1.heap.size) (hQ:Que base qb w1 v (q ++ [x])) (hQ':Que base qb w' v q') (hp:q'.Perm (q ++ [x])) (hh:G.HeapN q' q'.length) (hg:w1.grownBy w' v.ownBlock) :
  (∃ q',Heaped base qb w' q'∧q'.Perm (x :: q))∧Below base w w'∧Keeps qb w w' :=
 ⟨⟨q',⟨v,hQ',hh⟩,hp.trans (List.perm_append_singleton x q)⟩,hb1.grown hg hs (fun g h=>(hQ.own.lt g h).1),hk.trans (Keeps.grown hQ hQ' hg)⟩
def HPushed (base qb:Nat) (w w':World) (x:P) (q:List P):Prop:=(∃ q',Heaped base qb w' q'∧q'.Perm (x :: q))∧Below base w w'∧Keeps qb w w'
set_option maxRecDepth 100000 in
set_option maxHeartbeats 8000000 in
theorem hpush_any (base qb:Nat) (q:List P) (x:P) (w:World) (hH:Heaped base qb w q) (hn:q.length < 100000) (hb:base≤qb) :
  Calls Tryz.prog 216 #[.iface 246 (.pointer (some ⟨qb,0,none⟩)),.iface 245 (.agg #[.int .i64 x.1,.int .i64 x.2])] w fun e w'=>e=.returned (.tuple #[])∧HPushed base qb w w' x q:=by
 obtain ⟨t,n⟩:=x
 obtain ⟨v,hQ,hh⟩:=hH
 have hlt:=que_lt hQ
 have hmp:=fun w=>m_push ⟨qb,0,none⟩ w
 have hu:=Lib.hid (G.UpInv.push (t,n) hh)
 go_enter Tryz.func216,Tryz.ntmps216
 go_wp2_with fail
 refine (qpush_any base qb v q t n _ hQ (by omega) hb).mono ?_
 rintro e w1 ⟨rfl,⟨v1,hQ1⟩,hb1,hk1⟩
 have hlt1:=que_lt hQ1
 obtain ⟨A,c,hv,hP⟩:=hQ1.form
 have hc:w1.cell? ⟨qb,0,none⟩=some v1:=blk_cell hQ1.blk 0 _ rfl
 have HL:=Lib.hid (show (q ++ [(t,n)]).length=q.length + 1 by simp)
 rw [HL.out] at hv
 subst hv
 have hml:=m_len hc
 clear hc
 go_wp2_with fail
 refine (qlen_any _ _ _ _).mono ?_
 rintro e w2 ⟨rfl,rfl⟩
 go_wp2_with fail
 refine (up_any base qb _ _ q.length _ hQ1 (by rw [HL.out];omega) hu.out).mono ?_
 rintro e w2 ⟨rfl,⟨q',hQ',hp,hh'⟩,hg⟩
 go_wp2_with fail
 refine bodyPost_end (results_none rfl _ _ _) rfl ?_
 exact ⟨rfl,pushed_up hb1 hk1 (by omega) hQ1 hQ' hp hh' hg⟩
def HPopped (base qb:Nat) (w w':World) (q:List P) (e:Ending):Prop :=
 ∃ (x:P) (q':List P),e=.returned (.iface 245 (.agg #[.int .i64 x.1,.int .i64 x.2]))∧q.Perm (x :: q')∧(∀ p ∈ q,x.1≤p.1)∧Heaped base qb w' q'∧Below base w w'∧Keeps qb w w'
theorem hpopped_mk {base qb n:Nat} {w w1 w2 w3:World} {q r:List P} {v:Value} {x:P} (hh:G.HeapN q q.length) (hq:q.length=n + 1) (hQ:Que base qb w v q) (hQ1:Que base qb w1 v (G.swap q 0 n)) (hQ2:Que base qb w2 v r) (hg1:w.grownBy w1 v.ownBlock) (hg2:w1.grownBy w2 v.ownBlock) (hp:r.Perm (G.swap q 0 n)) (hr:G.HeapN r n) (hold:∀ k,n≤k→r[k]? = (G.swap q 0 n)[k]?) (hx:r[n]? = some x)
  (hP:Pushed base qb w2 w3 (r.take n)) (hs:base≤w.heap.size):HPopped base qb w w3 q (.returned (.iface 245 (.agg #[.int .i64 x.1,.int .i64 x.2]))):=by
 have hp2:r.Perm q:=hp.trans (G.swap_perm (by omega) (by omega))
 have hrl:r.length=n + 1:=by rw [hp2.length_eq,hq]
 obtain ⟨h1,h2⟩:=G.pop_all hp2 hr hrl hx
 obtain ⟨⟨v',hQ'⟩,hb,hk⟩:=hP
 refine ⟨x,r.take n,rfl,h1,fun p hpq=>?_,⟨v',hQ',h2⟩,?_,((Keeps.grown hQ hQ1 hg1).trans (Keeps.grown hQ1 hQ2 hg2)).trans hk⟩
 ·have e0:=hold n (Nat.le_refl _)
  rw [hx,G.swap_get (by omega) (by omega),if_pos rfl] at e0
  obtain ⟨i,hi⟩:=List.mem_iff_getElem?.1 hpq
  have hil:i < q.length:=(List.getElem?_eq_some_iff.1 hi).1
  have:=hh.first i i (Nat.le_refl _) hil
  unfold G.ky at this
  rw [←e0,hi] at this
  exact this
 ·have hs1:=hg1.size
  have hs2:=hg2.size
  have b2:Below base w w2:=((Below.refl base w).grown hg1 hs (fun g h=>(hQ.own.lt g h).1)).grown hg2 (by omega) (fun g h=>(hQ.own.lt g h).1)
  exact b2.trans hb
set_option maxRecDepth 100000 in
set_option maxHeartbeats 8000000 in
theorem hpop_any (base qb:Nat) (q:List P) (w:World) (hH:Heaped base qb w q) (hn:q.length≤100000) (h0:0 < q.length) (hb:base≤qb) :
  Calls Tryz.prog 215 #[.iface 246 (.pointer (some ⟨qb,0,none⟩))] w fun e w'=>HPopped base qb w w' q e:=by
 obtain ⟨v,hQ,hh⟩:=hH
 obtain ⟨n,hq⟩:∃ n,q.length=n + 1:=⟨q.length - 1,by omega⟩
 have hlt:=que_lt hQ
 have hs:base≤w.heap.size:=by omega
 obtain ⟨A,c,hv,hP⟩:=hQ.form
 have hc:w.cell? ⟨qb,0,none⟩=some v:=blk_cell hQ.blk 0 _ rfl
 rw [hq] at hv
 subst hv
 have hml:=m_len hc
 have hms:=m_swap hc
 have hmp:=fun w=>m_pop ⟨qb,0,none⟩ w
 have n9:n≤100000:=by omega
 have HQL:=Lib.hid hq
 have hd:=Lib.hid (G.DownInv.pop hh hq)
 have hl0:0 < q.length:=h0
 have hln:n < q.length:=by omega
 clear hq hc
 go_enter Tryz.func215,Tryz.ntmps215
 go_wp2_with fail
 refine (qlen_any _ _ _ _).mono ?_
 rintro e w2 ⟨rfl,rfl⟩
 go_wp2_with fail
 refine (qswap_any base _ q 0 n _ hQ.own hl0 hln).mono ?_
 rintro e w1 ⟨rfl,ho,hg1⟩
 have hQ1:=hQ.swapped (G.swap_len q 0 n) ho hg1
 clear hml hms
 go_wp2_with fail
 refine (down_any base qb _ _ n _ hQ1 (by rw [G.swap_len];exact hn) hd.out).mono ?_
 rintro e w2 ⟨⟨bb,rfl⟩,⟨r,hQ2,hp,hr,hold⟩,hg2⟩
 have hrl:r.length=n + 1:=by rw [hp.length_eq,G.swap_len,HQL.out]
 obtain ⟨x,hx⟩:∃ x,r[n]? = some x:=⟨_,List.getElem?_eq_getElem (by omega)⟩
 have HX:=Lib.hid hx
 have HRL:=Lib.hid hrl
 have HO:=Lib.hid hold
 clear hx hrl hold
 go_wp2_with fail
 refine (qpop_any base qb _ r n x _ hQ2 HRL.out HX.out (by rw [HRL.out];omega) hb).mono ?_
 rintro e w3 ⟨rfl,hP3⟩
 go_wp2_with fail
 go_ret
 exact hpopped_mk hh HQL.out hQ hQ1 hQ2 hg1 hg2 hp hr HO.out HX.out hP3 hs
theorem made_rep (z:Value) (n:Nat):madeCells #[z] n=(List.replicate n z).toArray:=by
 apply Array.ext
 ·simp [madeCells]
 ·intro i h1 h2
  simp [madeCells,Nat.mod_one]
theorem Tryz.info243:(Tryz.prog.info? 243).map (fun i=>(i.zero,i.size,i.bytes))=some (some (.slice none 0 0),1,24):=by kernel_rfl
theorem make_ints (n:Nat) (hn:n≤1000000) (w:World):(Instr.makeSlice 48 (.int .i64 n) (.int .i64 n)).run Tryz.prog w=.ok (.slice (some ⟨w.heap.size,0,none⟩) n n) (w.alloc (.cells (intCells (List.replicate n 0)).toArray 3)):=by
 have h:=run_make_row' (P:=Tryz.prog) 48 3 (.int .i64 0) 8 Tryz.underlying48 Tryz.info3 rfl .i64 .i64 n (by omega) (by omega) w
 rw [made_rep] at h
 rw [h,intCells,List.map_replicate]
theorem make_stops (n:Nat) (hn:n≤1000000) (w:World):(Instr.makeSlice 242 (.int .i64 n) (.int .i64 n)).run Tryz.prog w=.ok (.slice (some ⟨w.heap.size,0,none⟩) n n) (w.alloc (.cells (List.replicate n (Value.slice none 0 0)).toArray 243)):=by
 have h:=run_make_row' (P:=Tryz.prog) 242 243 (.slice none 0 0) 24 Tryz.underlying242 Tryz.info243 rfl .i64 .i64 n (by omega) (by omega) w
 rw [made_rep] at h
 rw [h]
def IBlk (w:World) (b:Nat) (l:List Int):Prop:=w.heap[b]? = some (.cells (intCells l).toArray 3 (0,0))
theorem IBlk.same {w w':World} {b:Nat} {l:List Int} (h:IBlk w b l) (e:w'.heap[b]? = w.heap[b]?):IBlk w' b l:=e.trans h
theorem IBlk.below {w w':World} {b B:Nat} {l:List Int} (h:IBlk w b l) (hb:Below B w w') (hB:b < B):IBlk w' b l:=(hb.block b hB).trans h
theorem IBlk.lt {w:World} {b:Nat} {l:List Int} (h:IBlk w b l):b < w.heap.size:=lt_of_block h
theorem IBlk.cell {w:World} {b:Nat} {l:List Int} (h:IBlk w b l) {k:Nat} {x:Int} (hk:l[k]? = some x):w.cell? ⟨b,k,none⟩=some (.int .i64 x):=blk_cell h k _ (by simp [intCells,hk])
theorem IBlk.free {w:World} {b:Nat} {l:List Int} (h:IBlk w b l) (i:Nat):w.frozen? ⟨b,i,none⟩=false:=by
 unfold IBlk at h
 simp [World.frozen?,h]
theorem IBlk.set {w:World} {b:Nat} {l:List Int} (h:IBlk w b l) (k:Nat) (x:Int):IBlk (w.setCell ⟨b,k,none⟩ (.int .i64 x)) b (l.set k x):=by
 have h1:=blk_set h k (.int .i64 x)
 unfold IBlk
 rw [h1]
 simp [intCells,List.map_set]
theorem IBlk.ints {w:World} {b:Nat} {l:List Int} (h:IBlk w b l):Ints w (some ⟨b,0,none⟩) l.length l:=⟨rfl,by have:=Rd.of_block h 1 l.length (by simp [intCells]);simpa using this⟩
theorem own_grown {w w':World} {base:Nat} {v:Value} {n:Nat} {xs:List Value} {r:Option Nat} (h:w.ownsRow base 245 2 v n xs) (hg:w.grownBy w' r) (hne:∀ g,v.ownBlock=some g→some g ≠ r):w'.ownsRow base 245 2 v n xs:=by
 obtain ⟨hl,h1 | ⟨g,cap,cur,hv,hbg,hh,r⟩⟩:=h
 ·exact ⟨hl,.inl h1⟩
 ·exact ⟨hl,.inr ⟨g,cap,cur,hv,hbg,grow_blk hg hh (hne g (by rw [hv];rfl)),r⟩⟩
structure Table (base nb:Nat) (w:World) (vals:List Value) (rows:List (List P)):Prop where
 blk:w.heap[nb]? = some (.cells vals.toArray 243 (0,0))
 len:vals.length=rows.length
 own:∀ (i:Nat) (v:Value) (r:List P),vals[i]? = some v→rows[i]? = some r→w.ownsRow base 245 2 v r.length (r.flatMap pairCells)
 ne:∀ (i:Nat) (v:Value),vals[i]? = some v→v.ownBlock ≠ some nb
 apart:∀ (i j:Nat) (v u:Value) (g:Nat),i ≠ j→vals[i]? = some v→vals[j]? = some u→v.ownBlock=some g→u.ownBlock ≠ some g
theorem Table.lt {base nb:Nat} {w:World} {vals:List Value} {rows:List (List P)} (h:Table base nb w vals rows):nb < w.heap.size:=lt_of_block h.blk
theorem Table.below {base nb:Nat} {w w':World} {vals:List Value} {rows:List (List P)} (h:Table base nb w vals rows) (hb:Below w.heap.size w w'):Table base nb w' vals rows :=
 ⟨blk_below hb h.blk,h.len,fun i v r hv hr=>own_below (h.own i v r hv hr) hb,h.ne,h.apart⟩
theorem Table.start (base nb m:Nat) (w:World) (h:w.heap[nb]? = some (.cells (List.replicate m (Value.slice none 0 0)).toArray 243 (0,0))):Table base nb w (List.replicate m (.slice none 0 0)) (List.replicate m []):=by
 have key:∀ (i:Nat) (v:Value),(List.replicate m (Value.slice none 0 0))[i]? = some v→v=.slice none 0 0:=by
  intro i v hv
  rw [List.getElem?_replicate] at hv
  split at hv
  ·injection hv with hv;exact hv.symm
  ·cases hv
 refine ⟨h,by simp,fun i v r hv hr=>?_,fun i v hv=>?_,fun i j v u g _ hv hu hg=>?_⟩
 ·rw [key i v hv]
  rw [List.getElem?_replicate] at hr
  split at hr
  ·injection hr with hr;subst hr;exact ⟨rfl,.inl ⟨rfl,rfl⟩⟩
  ·cases hr
 ·rw [key i v hv];simp [Value.ownBlock]
 ·rw [key i v hv] at hg;simp [Value.ownBlock] at hg
theorem Table.row {base nb:Nat} {w:World} {vals:List Value} {rows:List (List P)} (h:Table base nb w vals rows) {i:Nat} (hi:i < rows.length):∃ v r,vals[i]? = some v∧rows[i]? = some r :=
 ⟨_,_,List.getElem?_eq_getElem (by rw [h.len];exact hi),List.getElem?_eq_getElem hi⟩
theorem Table.cell {base nb:Nat} {w:World} {vals:List Value} {rows:List (List P)} (h:Table base nb w vals rows) {i:Nat} {v:Value} (hv:vals[i]? = some v):w.cell? ⟨nb,i,none⟩=some v:=blk_cell h.blk i _ (by simpa using hv)
theorem Table.app {base nb:Nat} {w w4:World} {vals:List Value} {rows:List (List P)} (h:Table base nb w vals rows) {i:Nat} {v:Value} {r:List P} (hv:vals[i]? = some v) (_hr:rows[i]? = some r) {g4 cap4:Nat} {t n:Int}
  (hg:w.grownBy w4 v.ownBlock) (ho:w4.ownsRow base 245 2 (.slice (some ⟨g4,0,none⟩) (r.length + 1) cap4) (r.length + 1) (r.flatMap pairCells ++ [.int .i64 t,.int .i64 n])) (hl:v.ownBlock=some g4∨w.heap.size≤g4) :
  Table base nb (w4.setCell ⟨nb,i,none⟩ (.slice (some ⟨g4,0,none⟩) (r.length + 1) cap4)) (vals.set i (.slice (some ⟨g4,0,none⟩) (r.length + 1) cap4)) (rows.set i (r ++ [(t,n)])):=by
 have hnb:=h.lt
 have hgn:g4 ≠ nb:=fun e=>by
  rcases hl with hl | hl
  ·exact h.ne i v hv (by rw [hl,e])
  ·omega
 have hil:i < vals.length:=(List.getElem?_eq_some_iff.1 hv).1
 have hb4:w4.heap[nb]? = some (.cells vals.toArray 243 (0,0)):=grow_blk hg h.blk (fun e=>h.ne i v hv e.symm)
 have blk_lt:∀ (j:Nat) (u:Value) (g:Nat),vals[j]? = some u→u.ownBlock=some g→g < w.heap.size:=by
  intro j u g hu hg
  have hjl:j < rows.length:=by rw [←h.len];exact (List.getElem?_eq_some_iff.1 hu).1
  exact ((h.own j u _ hu (List.getElem?_eq_getElem hjl)).lt g hg).2
 refine ⟨?_,by simp [h.len],fun j u s hu hs=>?_,fun j u hu=>?_,fun j k u x g hjk hu hx hg=>?_⟩
 ·have:=blk_set hb4 i (.slice (some ⟨g4,0,none⟩) (r.length + 1) cap4)
  rw [this];simp
 ·by_cases e:i=j
  ·subst e
   rw [List.getElem?_set_self hil] at hu
   rw [List.getElem?_set_self (by rw [←h.len];exact hil)] at hs
   injection hu with hu;injection hs with hs
   subst hu hs
   have h1:=ownsRow_setCell_other ho (a:=⟨nb,i,none⟩) (show (some g4:Option Nat) ≠ some nb from fun e=>hgn (by injection e)) (.slice (some ⟨g4,0,none⟩) (r.length + 1) cap4)
   simpa [pairCells] using h1
  ·rw [List.getElem?_set_ne e] at hu hs
   have h1:=own_grown (h.own j u s hu hs) hg (fun g hg2 hg3=>h.apart j i u v g (Ne.symm e) hu hv hg2 hg3.symm)
   exact ownsRow_setCell_other h1 (a:=⟨nb,i,none⟩) (h.ne j u hu) _
 ·by_cases e:i=j
  ·subst e
   rw [List.getElem?_set_self hil] at hu
   injection hu with hu
   subst hu
   intro e2
   injection e2 with e2
   exact hgn e2
  ·rw [List.getElem?_set_ne e] at hu
   exact h.ne j u hu
 ·by_cases e:i=j
  ·subst e
   rw [List.getElem?_set_self hil] at hu
   injection hu with hu
   subst hu
   rw [List.getElem?_set_ne hjk] at hx
   injection hg with hg
   subst hg
   rcases hl with hl | hl
   ·exact h.apart i k v x _ hjk hv hx hl
   ·intro e2;have:=blk_lt k x _ hx e2;dsimp only at this;omega
  ·rw [List.getElem?_set_ne e] at hu
   by_cases e2:i=k
   ·subst e2
    rw [List.getElem?_set_self hil] at hx
    injection hx with hx
    subst hx
    intro e3
    injection e3 with e3
    subst e3
    rcases hl with hl | hl
    ·exact h.apart j i u v _ hjk hu hv hg hl
    ·have:=blk_lt j u _ hu hg;dsimp only at this;omega
   ·rw [List.getElem?_set_ne e2] at hx
    exact h.apart j k u x g hjk hu hx hg
def Adj (w:World) (nb lim:Nat) (rows:List (List P)):Prop :=
 nb < lim∧∀ (i:Nat) (r:List P),rows[i]? = some r→∃ A c,w.cell? ⟨nb,i,none⟩=some (.slice A r.length c)∧Pairs w A r.length r∧∀ ad,A=some ad→ad.block < lim
theorem Table.adj {base nb:Nat} {w:World} {vals:List Value} {rows:List (List P)} (h:Table base nb w vals rows):Adj w nb w.heap.size rows:=by
 refine ⟨h.lt,fun i r hr=>?_⟩
 have hil:i < vals.length:=by rw [h.len];exact (List.getElem?_eq_some_iff.1 hr).1
 obtain ⟨v,hv⟩:∃ v,vals[i]? = some v:=⟨_,List.getElem?_eq_getElem hil⟩
 obtain ⟨A,c,e,hR,hg⟩:=own_form (h.own i v r hv hr)
 subst e
 refine ⟨A,c,h.cell hv,⟨rfl,hR⟩,fun ad e=>?_⟩
 subst e
 exact (hg ad.block (by rfl)).2
theorem Adj.below {w w':World} {nb lim:Nat} {rows:List (List P)} (h:Adj w nb lim rows) (hb:Below lim w w'):Adj w' nb lim rows:=by
 refine ⟨h.1,fun i r hr=>?_⟩
 obtain ⟨A,c,hc,hP,hA⟩:=h.2 i r hr
 refine ⟨A,c,(World.cell?_of_block (hb.block nb h.1)).trans hc,⟨hP.1,hP.2.1,fun h0=>?_⟩,hA⟩
 obtain ⟨ad,e,hcell⟩:=hP.2.2 h0
 refine ⟨ad,e,fun j u hu=>?_⟩
 exact (World.cell?_of_block (by rw [add_block];exact hb.block _ (hA ad e))).trans (hcell j u hu)
namespace G
def nexts (k:Int) (l:List Ro) (v:Nat):List P:=(l.filter fun x=>carries x k && x.fr == (v:Int)).map fun x=>(x.mins,x.tt)
def table (k:Int) (l:List Ro) (m:Nat):List (List P):=(List.range m).map (nexts k l)
theorem table_nil (k:Int) (m:Nat):table k [] m=List.replicate m []:=by
 apply List.ext_getElem?
 intro i
 simp only [table,List.getElem?_map,List.getElem?_replicate]
 by_cases h:i < m
 ·rw [List.getElem?_range h,if_pos h];rfl
 ·rw [List.getElem?_eq_none (by simpa using h),if_neg h];rfl
theorem table_get {k:Int} {l:List Ro} {m v:Nat} (h:v < m):(table k l m)[v]? = some (nexts k l v):=by
 simp [table,List.getElem?_range h]
theorem nexts_snoc (k:Int) (l:List Ro) (x:Ro) (v:Nat):nexts k (l ++ [x]) v=nexts k l v ++ if (carries x k && x.fr == (v:Int))=true then [(x.mins,x.tt)] else []:=by
 unfold nexts
 rw [List.filter_append,List.map_append]
 congr 1
 by_cases h:(carries x k && x.fr == (v:Int))=true
 ·simp only [List.filter_cons,List.filter_nil];rw [if_pos h,if_pos h];rfl
 ·simp only [List.filter_cons,List.filter_nil];rw [if_neg h,if_neg h];rfl
theorem table_no {k:Int} {l:List Ro} {x:Ro} {m:Nat} (h:carries x k=false):table k (l ++ [x]) m=table k l m:=by
 unfold table
 apply List.map_congr_left
 intro v _
 rw [nexts_snoc,h];simp
theorem table_yes {k:Int} {l:List Ro} {x:Ro} {m a:Nat} (h:carries x k=true) (ha:x.fr=(a:Int)) (hm:a < m):table k (l ++ [x]) m=(table k l m).set a (nexts k l a ++ [(x.mins,x.tt)]):=by
 apply List.ext_getElem?
 intro i
 by_cases hi:i < m
 ·rw [table_get hi,nexts_snoc,h,ha]
  by_cases e:a=i
  ·subst e
   rw [List.getElem?_set_self (by simp [table];exact hm)];simp
  ·rw [List.getElem?_set_ne e,table_get hi]
   have:((a:Int) == (i:Int))=false:=by simp;omega
   simp [this]
 ·rw [List.getElem?_eq_none (by simp [table];omega),List.getElem?_eq_none (by simp [table];omega)]
theorem nexts_mem {k:Int} {l:List Ro} {v:Nat} {p:P}:p ∈ nexts k l v ↔ ∃ x ∈ l,carries x k=true∧x.fr=(v:Int)∧p=(x.mins,x.tt):=by
 unfold nexts
 simp only [List.mem_map,List.mem_filter,Bool.and_eq_true,beq_iff_eq]
 constructor
 ·rintro ⟨x,⟨h1,h2,h3⟩,rfl⟩;exact ⟨x,h1,h2,h3,rfl⟩
 ·rintro ⟨x,h1,h2,h3,rfl⟩;exact ⟨x,⟨h1,h2,h3⟩,rfl⟩
theorem nexts_len (k:Int) (l:List Ro) (v:Nat):(nexts k l v).length≤l.length:=by
 unfold nexts
 rw [List.length_map]
 exact List.length_filter_le _ _
def undone (out:List Int):Nat:=out.count (-1)
theorem undone_set {out:List Int} {v:Nat} {t:Int} (hv:out[v]? = some (-1)) (ht:t ≠ -1):undone (out.set v t) + 1=undone out:=by
 unfold undone
 induction out generalizing v with
 | nil=>simp at hv
 | cons x l ih =>
  cases v with
  | zero =>
   simp at hv;subst hv
   have hq:(t == -1)=false:=by simpa using ht
   simp [List.count_cons,hq]
  | succ v =>
   have:=ih (by simpa using hv)
   rw [List.set_cons_succ,List.count_cons,List.count_cons]
   omega
theorem undone_rep (m:Nat):undone (List.replicate m (-1))=m:=by simp [undone]
structure Run (m:Nat) (l:List Ro) (k s:Int) (out:List Int) (q:List P):Prop where
 inv:Inv m l k s out q
 len:q.length + undone out * l.length≤1 + m * l.length
 time:∀ p ∈ q,0≤p.1∧p.1≤1000000 * ((m:Int) - undone out)
theorem Run.first {m:Nat} {l:List Ro} {k s:Int} (hs:0≤s∧s < m):Run m l k s (List.replicate m (-1)) [(0,s)]:=by
 refine ⟨Inv.first hs,by rw [undone_rep];simp,fun p hp=>?_⟩
 simp at hp;subst hp
 rw [undone_rep]
 simp
theorem Run.drop {m:Nat} {l:List Ro} {k s:Int} {out:List Int} {q q':List P} {x:P} (h:Run m l k s out q) (hp:q.Perm (x :: q')) (hd:at_ out x.2 ≠ -1):Run m l k s out q':=by
 have hl:=hp.length_eq
 simp at hl
 exact ⟨h.inv.drop (t:=x.1) (v:=x.2) hp hd,by have:=h.len;omega,fun p hq=>h.time p (hp.mem_iff.2 (List.mem_cons_of_mem _ hq))⟩
theorem Run.take {m:Nat} {l:List Ro} {k s:Int} {out:List Int} {q q' q2:List P} {t:Int} {v:Nat} (hf:Fine m l) (hmin:∀ x ∈ l,x.mins≤1000000) (hs:0≤s∧s < m) (h:Run m l k s out q) (hp:q.Perm ((t,(v:Int)) :: q')) (hd:out[v]? = some (-1))
  (hle:∀ p ∈ q,t≤p.1) (hq2:q2.Perm ((nexts k l v).map (fun y=>(t + y.1,y.2)) ++ q')):Run m l k s (out.set v t) q2∧undone (out.set v t) + 1=undone out:=by
 have hd':at_ out (v:Int)=-1:=by unfold at_;rw [Int.toNat_natCast,hd];rfl
 have htq:=h.time (t,(v:Int)) (hp.mem_iff.2 List.mem_cons_self)
 simp only at htq
 have hu:=undone_set (t:=t) hd (by omega)
 have hl:=hp.length_eq
 have hl2:=hq2.length_eq
 have hn:=nexts_len k l v
 simp at hl hl2
 have hv:v < out.length:=(List.getElem?_eq_some_iff.1 hd).1
 refine ⟨⟨?_,?_,fun p hpq=>?_⟩,hu⟩
 ·have h1:=Inv.take (v:=(v:Int)) (t:=t) (q2:=q2) hf hs h.inv hp hd' hle (fun p=>by
   rw [hq2.mem_iff,List.mem_append,List.mem_map]
   constructor
   ·rintro (⟨y,hy,rfl⟩ | hq)
    ·obtain ⟨x,hx,hc,hxv,rfl⟩:=nexts_mem.1 hy
     exact .inr ⟨x,hx,hc,hxv,rfl⟩
    ·exact .inl hq
   ·rintro (hq | ⟨x,hx,hc,hxv,rfl⟩)
    ·exact .inr hq
    ·exact .inl ⟨(x.mins,x.tt),nexts_mem.2 ⟨x,hx,hc,hxv,rfl⟩,rfl⟩)
  rwa [Int.toNat_natCast] at h1
 ·have:=h.len
  rw [←hu,Nat.add_mul] at this
  omega
 ·rcases List.mem_append.1 (hq2.mem_iff.1 hpq) with h1 | h1
  ·obtain ⟨y,hy,rfl⟩:=List.mem_map.1 h1
   obtain ⟨x,hx,hc,hxv,rfl⟩:=nexts_mem.1 hy
   have:=hmin x hx
   have:=(hf x hx).2.2
   simp only
   omega
  ·have:=h.time p (hp.mem_iff.2 (List.mem_cons_of_mem _ h1))
   omega
end G
theorem K.roadErr_ok {n:Int}:∀ {l:List Ro},K.roadErr n l=0→G.Fine n l∧∀ x ∈ l,x.mins≤1000000:=by
 intro l
 induction l with
 | nil=>intro _;exact ⟨fun x hx=>by simp at hx,fun x hx=>by simp at hx⟩
 | cons y l ih =>
  intro h
  unfold K.roadErr at h
  split at h
  ·omega
  ·split at h
   ·omega
   ·rename_i h1 h2
    obtain ⟨i1,i2⟩:=ih h
    have f1:K.fineRoad n y=true:=by simpa using h1
    have f2:K.okRoad y=true:=by simpa using h2
    simp [K.fineRoad,K.okRoad,T.btw] at f1 f2
    refine ⟨fun x hx=>?_,fun x hx=>?_⟩
    ·rcases List.mem_cons.1 hx with rfl | hx
     ·omega
     ·exact i1 x hx
    ·rcases List.mem_cons.1 hx with rfl | hx
     ·omega
     ·exact i2 x hx
theorem K.netErr_ok {nd:Int} {l:List Ro} (h:K.netErr nd l=0):(0≤nd∧nd≤100)∧l.length≤600∧G.Fine nd l∧∀ x ∈ l,x.mins≤1000000:=by
 unfold K.netErr at h
 split at h
 ·omega
 ·split at h
  ·omega
  ·rename_i h1 h2
   exact ⟨T.btw_iff.1 (by simpa using h1),by omega,K.roadErr_ok h⟩
def Searched (m:Nat) (l:List Ro) (k s:Int) (w w':World) (e:Ending):Prop :=
 ∃ (g:Nat) (out:List Int),e=.returned (.slice (some ⟨g,0,none⟩) m m)∧w.heap.size≤g∧IBlk w' g out∧G.Dist m l k s out∧Below w.heap.size w w'
theorem filled_next (m i:Nat) (h:i < m):((List.replicate i (-1:Int) ++ List.replicate (m - i) 0).set i (-1))=List.replicate (i + 1) (-1) ++ List.replicate (m - (i + 1)) 0:=by
 apply List.ext_getElem?
 intro j
 rw [List.getElem?_set]
 simp only [List.getElem?_append,List.getElem?_replicate,List.length_append,List.length_replicate]
 by_cases e:i=j
 ·subst e
  simp;omega
 ·rw [if_neg e]
  by_cases h1:j < i
  ·rw [if_pos h1,if_pos h1,if_pos (show j < i + 1 by omega),if_pos (show j < i + 1 by omega)]
  ·rw [if_neg h1,if_neg (show ¬ j < i + 1 by omega)]
   by_cases h2:j < m
   ·rw [if_pos (show j - i < m - i by omega),if_pos (show j - (i + 1) < m - (i + 1) by omega)]
   ·rw [if_neg (show ¬ j - i < m - i by omega),if_neg (show ¬ j - (i + 1) < m - (i + 1) by omega)]
theorem row_step {w w2 w4:World} {m a n c g4 cap4:Nat} {A:Option Addr} {vals:List Value} {rows:List (List P)} {v:Value} {r:List P} {mi tt:Int} (hT2:Table (w.heap.size + 1) (w.heap.size + 1) w2 vals rows) (hP2:Net w2 w.heap.size m A n c) (hb:Below w.heap.size w w2)
  (hv:vals[a]? = some v) (hr:rows[a]? = some r) (hown4:w4.ownsRow (w.heap.size + 1) 245 2 (.slice (some ⟨g4,0,none⟩) (r.length + 1) cap4) (r.length + 1) (r.flatMap pairCells ++ [.int .i64 mi,.int .i64 tt])) (hgrow4:(w2.alloc (.cells #[.int .i64 mi,.int .i64 tt] 245)).drew.grownBy w4 v.ownBlock)
  (hlies:v.ownBlock=some g4∨g4=w2.heap.size + 1) :
  Net (w4.setCell ⟨w.heap.size + 1,a,none⟩ (.slice (some ⟨g4,0,none⟩) (r.length + 1) cap4)) w.heap.size m A n c ∧
  Table (w.heap.size + 1) (w.heap.size + 1) (w4.setCell ⟨w.heap.size + 1,a,none⟩ (.slice (some ⟨g4,0,none⟩) (r.length + 1) cap4)) (vals.set a (.slice (some ⟨g4,0,none⟩) (r.length + 1) cap4)) (rows.set a (r ++ [(mi,tt)])) ∧
  Below w.heap.size w (w4.setCell ⟨w.heap.size + 1,a,none⟩ (.slice (some ⟨g4,0,none⟩) (r.length + 1) cap4)):=by
 have HZ:((w2.alloc (.cells #[.int .i64 mi,.int .i64 tt] 245)).drew).heap.size=w2.heap.size + 1:=by
  show (w2.alloc _).heap.size=_
  rw [World.size_alloc]
 have hs:=hb.size
 have ba:Below w2.heap.size w2 (w2.alloc (.cells #[.int .i64 mi,.int .i64 tt] 245)).drew:=((Below.refl _ _).alloc (Nat.le_refl _) _).drew
 have hlt:∀ g,v.ownBlock=some g→w.heap.size + 1≤g:=fun g h=>((hT2.own a v r hv hr).lt g h).1
 refine ⟨?_,(hT2.below ba).app hv hr hgrow4 hown4 (hlies.imp id (fun e=>by omega)),?_⟩
 ·have h1:Net w4 w.heap.size m A n c:=grow_blk hgrow4 (hP2.below ba) (fun e=>by have:=hlt _ e.symm;omega)
  exact (Below.heap_setCell w4 ⟨w.heap.size + 1,a,none⟩ _ w.heap.size (show w.heap.size ≠ w.heap.size + 1 by omega)).trans h1
 ·have h1:Below w.heap.size w (w2.alloc (.cells #[.int .i64 mi,.int .i64 tt] 245)).drew:=bel hb ba
  have h2:Below w.heap.size w w4:=h1.grown hgrow4 (by omega) (fun g h=>by have:=hlt g h;omega)
  exact h2.setCell (by show w.heap.size≤w.heap.size + 1;omega) _
theorem Heaped.below {base qb:Nat} {w w':World} {q:List P} (h:Heaped base qb w q) (hb:Below w.heap.size w w'):Heaped base qb w' q:=by
 obtain ⟨v,hQ,hh⟩:=h
 exact ⟨v,hQ.below hb,hh⟩
theorem Heaped.lt {base qb:Nat} {w:World} {q:List P} (h:Heaped base qb w q):qb < w.heap.size:=by
 obtain ⟨v,hQ,hh⟩:=h
 exact que_lt hQ
theorem Heaped.away {base qb:Nat} {w:World} {q:List P} (h:Heaped base qb w q) (o:Obj):Away qb w.heap.size (w.alloc o):=by
 obtain ⟨v,hQ,hh⟩:=h
 have:=que_lt hQ
 have hQ':=hQ.below ((Below.refl _ _).alloc (Nat.le_refl _) o)
 refine ⟨by omega,by rw [World.size_alloc];omega,fun u hu=>?_⟩
 rw [hQ'.one hu]
 intro e
 have:=(hQ.own.lt _ e).2
 omega
theorem Heaped.other {base qb g i:Nat} {w:World} {q:List P} (h:Heaped base qb w q) (x:Value) (h1:g ≠ qb) (h2:g < base):Heaped base qb (w.setCell ⟨g,i,none⟩ x) q:=by
 obtain ⟨v,hQ,hh⟩:=h
 refine ⟨v,⟨(Below.heap_setCell w ⟨g,i,none⟩ x qb (show qb ≠ g from h1.symm)).trans hQ.blk,?_,hQ.ne⟩,hh⟩
 exact ownsRow_setCell_other hQ.own (a:=⟨g,i,none⟩) (fun e=>by have:=(hQ.own.lt _ e).1;dsimp only at this;omega) x
theorem Heaped.first (wB:World) (s:Nat):Heaped wB.heap.size (wB.heap.size + 1) ((wB.alloc (.cells #[.int .i64 0,.int .i64 s] 245)).alloc (.cells #[.slice (some ⟨wB.heap.size,0,none⟩) 1 1] 247)) [(0,(s:Int))]:=by
 have SZ:=World.size_alloc wB (.cells #[.int .i64 0,.int .i64 s] 245)
 refine ⟨.slice (some ⟨wB.heap.size,0,none⟩) 1 1,⟨heap_alloc_at _ _ _ SZ.symm,⟨rfl,.inr ⟨wB.heap.size,1,_,rfl,Nat.le_refl _,blk_alloc (heap_alloc_new wB _) _,Nat.le_refl _,by decide,rfl,rfl⟩⟩,fun e=>by injection e with e;dsimp only at e;omega⟩,fun k h0 hk=>by simp at hk;omega⟩
theorem Adj.get {w:World} {nb lim:Nat} {rows:List (List P)} (h:Adj w nb lim rows) {i:Nat} {r:List P} (hr:rows[i]? = some r):∃ A c,∀ w',Below lim w w'→w'.cell? ⟨nb,i,none⟩=some (.slice A r.length c)∧Pairs w' A r.length r:=by
 obtain ⟨A,c,hc,hP,hA⟩:=h.2 i r hr
 refine ⟨A,c,fun w' hb=>⟨(World.cell?_of_block (hb.block nb h.1)).trans hc,hP.1,hP.2.1,fun h0=>?_⟩⟩
 obtain ⟨ad,e,hcell⟩:=hP.2.2 h0
 refine ⟨ad,e,fun j u hu=>?_⟩
 exact (World.cell?_of_block (by rw [add_block];exact hb.block _ (hA ad e))).trans (hcell j u hu)
theorem away_set {qb g i a:Nat} {w:World} (h:Away qb a w) (h1:g ≠ qb) (x:Value):Away qb a (w.setCell ⟨g,i,none⟩ x) :=
 ⟨h.1,by show a < (w.heap.modify _ _).size;rw [Array.size_modify];exact h.2.1,fun v hv=>h.2.2 v (by rw [←Below.heap_setCell w ⟨g,i,none⟩ x qb (show qb ≠ g from h1.symm)];exact hv)⟩
def SRel (m:Nat) (l:List Ro) (k s:Int) (wA:World) (base:Nat) (gk:Nat) (wr:World) (out:List Int) (q:List P):Prop :=
 gk=G.undone out * (l.length + 1) + q.length∧G.Run m l k s out q∧IBlk wr wA.heap.size out∧Heaped base (base + 1) wr q∧Below wA.heap.size wA wr
def TRel (wA:World) (base sb:Nat) (x:P) (r q':List P) (out:List Int) (j:Nat) (wr:World) (q2:List P):Prop :=
 Heaped base (base + 1) wr q2∧q2.Perm ((r.take j).map (fun y=>(x.1 + y.1,y.2)) ++ q')∧IBlk wr wA.heap.size out∧Below wA.heap.size wA wr∧wr.heap[sb]? = some (.cells #[.int .i64 x.1,.int .i64 x.2] 245 (0,0))∧Away (base + 1) sb wr
theorem TRel.alloc {wA wr:World} {base sb:Nat} {x:P} {r q':List P} {out:List Int} {j:Nat} {q2:List P} (h:TRel wA base sb x r q' out j wr q2) (o:Obj):TRel wA base sb x r q' out j (wr.alloc o) q2:=by
 obtain ⟨h1,h2,h3,h4,h5,h6⟩:=h
 have hb:Below wr.heap.size wr (wr.alloc o):=(Below.refl _ _).alloc (Nat.le_refl _) _
 exact ⟨h1.below hb,h2,h3.below hb h3.lt,bel h4 hb,blk_below hb h5,((Keeps.below h1.lt hb) sb h6).2⟩
theorem TRel.push {wA wr w':World} {base sb:Nat} {x y:P} {r q':List P} {out:List Int} {j:Nat} {q2:List P} (h:TRel wA base sb x r q' out j wr q2) (hy:r[j]? = some y) (hA:wA.heap.size < base) (hp:HPushed base (base + 1) wr w' (x.1 + y.1,y.2) q2):∃ q3,TRel wA base sb x r q' out (j + 1) w' q3:=by
 obtain ⟨h1,h2,h3,h4,h5,h6⟩:=h
 obtain ⟨⟨q3,hq3,hperm⟩,hb,hk⟩:=hp
 refine ⟨q3,hq3,?_,h3.below hb hA,h4.trans (hb.mono (by omega)),((hk sb h6).1).trans h5,(hk sb h6).2⟩
 rw [take_snoc hy,List.map_append,List.append_assoc]
 refine hperm.trans ?_
 refine (List.Perm.cons _ h2).trans ?_
 exact List.perm_middle.symm
theorem SRel.next {m n:Nat} {l:List Ro} {k s:Int} {wA:World} {base gk sb:Nat} {wr wi:World} {out:List Int} {q q' q2:List P} {t:Int} {v:Nat} (hs:0≤s∧s < m) (hf:G.Fine m l) (hmin:∀ x ∈ l,x.mins≤1000000) (h:SRel m l k s wA base gk wr out q) (hp:q.Perm ((t,(v:Int)) :: q')) (hle:∀ p ∈ q,t≤p.1) (hd:out[v]? = some (-1))
  (hn:n=(G.nexts k l v).length) (hT:TRel wA base sb (t,(v:Int)) (G.nexts k l v) q' (out.set v t) n wi q2):∃ g2,g2 < gk∧SRel m l k s wA base g2 wi (out.set v t) q2:=by
 obtain ⟨h1,h2,h3,h4,h5⟩:=h
 obtain ⟨t1,t2,t3,t4,t5,t6⟩:=hT
 rw [List.take_of_length_le (by omega)] at t2
 obtain ⟨r1,r2⟩:=h2.take hf hmin hs hp hd hle t2
 have l1:=hp.length_eq
 have l2:=t2.length_eq
 have l3:=G.nexts_len k l v
 simp at l1 l2
 refine ⟨_,?_,rfl,r1,t3,t1,t4⟩
 rw [h1,←r2,Nat.add_mul]
 omega
theorem SRel.drop {m:Nat} {l:List Ro} {k s:Int} {wA:World} {base gk:Nat} {wr wi:World} {out:List Int} {q q':List P} {x:P} (h:SRel m l k s wA base gk wr out q) (hp:q.Perm (x :: q')) (hd:G.at_ out x.2 ≠ -1) (hI:IBlk wi wA.heap.size out) (hH:Heaped base (base + 1) wi q') (hb:Below wA.heap.size wA wi) :
  ∃ g2,g2 < gk∧SRel m l k s wA base g2 wi out q':=by
 obtain ⟨h1,h2,h3,h4,h5⟩:=h
 have l1:=hp.length_eq
 simp at l1
 exact ⟨_,by rw [h1];omega,rfl,h2.drop hp hd,hI,hH,hb⟩
set_option maxRecDepth 100000 in
set_option maxHeartbeats 16000000 in
theorem search_any (m:Nat) (A:Option Addr) (n c:Nat) (l:List Ro) (s:Nat) (k:Int) (w:World) (hl:Roads w A n l) (hn:n≤600) (hm:m≤100) (hf:G.Fine m l) (hmin:∀ x ∈ l,x.mins≤1000000) (hs:s < m) :
  Calls Tryz.prog 209 #[.agg #[.int .i64 m,.slice A n c],.int .i64 s,.int .i64 k,.bool false] w fun e w'=>Searched m l k s w w' e:=by
 have b0:=(Below.refl w.heap.size w).alloc (Nat.le_refl _) (.cells #[.int .i64 m,.slice A n c] 24)
 have hmk1:=fun w'=>make_stops m (by omega) w'
 have hmk2:=fun w'=>make_ints m (by omega) w'
 have hP0:=Net.new w m A n c
 have SZ:=World.size_alloc w (.cells #[.int .i64 m,.slice A n c] 24)
 have HF:=Lib.hid hf
 have HMIN:=Lib.hid hmin
 clear hf hmin
 go_enter Tryz.func209,Tryz.ntmps209
 go_wp2_with fail
 go_loopw [27] (fun vi wr=>∃ j:Nat,vi=.int .i64 j∧j≤n∧Net wr w.heap.size m A n c∧(∃ vals,Table (w.heap.size + 1) (w.heap.size + 1) wr vals (G.table k (l.take j) m))∧Below w.heap.size w wr) (fun vi _=>n - (intOf vi).toNat)
 case atStart =>
  refine ⟨0,rfl,by omega,hP0.below ((Below.refl _ _).alloc (Nat.le_refl _) _),⟨List.replicate m (.slice none 0 0),?_⟩,b0.alloc b0.size _⟩
  rw [List.take_zero,G.table_nil]
  exact Table.start _ _ _ _ (heap_alloc_at _ _ _ SZ.symm)
 case round =>
  obtain ⟨j,rfl,hj,hP,⟨vals,hT⟩,hb⟩:=hrel
  have p0:=hP.c0
  have p1:=hP.c1
  by_cases hlt:j < n
  ·obtain ⟨ad,x,rfl,hx,c0,c1,c2,c3⟩:=Roads.at_ (hl.below hb) hlt
   have hxm:=List.mem_of_getElem? hx
   obtain ⟨⟨fa0,fa1⟩,⟨ft0,ft1⟩,fm0⟩:=HF.out x hxm
   have fm1:=HMIN.out x hxm
   have HTK:=Lib.hid (take_snoc hx)
   obtain ⟨a,ha⟩:∃ a:Nat,x.fr=(a:Int):=⟨x.fr.toNat,by omega⟩
   have ham:a < m:=by omega
   obtain ⟨v,r,hv,hr⟩:=hT.row (i:=a) (by simp [G.table];exact ham)
   have hcell:=hT.cell hv
   have HX:=Lib.hid ha
   have a0:(0:Int)≤(a:Int):=by omega
   have a1:(a:Int) < (m:Int):=by omega
   obtain ⟨fr,tt,mi,li⟩:=x
   simp only at HX c0 c1 c2 c3 fa0 fa1 ft0 ft1 fm0 fm1 ha HTK
   subst ha
   obtain ⟨wx,hwx⟩:∃ wx:World,wx=wr.alloc (.cells #[.int .i64 a,.int .i64 tt,.int .i64 mi,.int .i64 li] 134):=⟨_,rfl⟩
   have hXB:wx.heap[wr.heap.size]? = some (.cells #[.int .i64 a,.int .i64 tt,.int .i64 mi,.int .i64 li] 134 (0,0)):=by rw [hwx];exact heap_alloc_new _ _
   have bx:Below wr.heap.size wr wx:=by rw [hwx];exact (Below.refl _ _).alloc (Nat.le_refl _) _
   have x0:=blk_cell hXB 0 _ rfl
   have x1:=blk_cell hXB 1 _ rfl
   have x2:=blk_cell hXB 2 _ rfl
   have x3:=blk_cell hXB 3 _ rfl
   clear hx hxm
   go_wp2_with fail
   rw [←hwx]
   clear hwx
   go_quiet (fail)
   go_wp2_with fail
   refine (carries_any _ _ _ _ _ _).mono ?_
   rintro e w2 ⟨rfl,hb2'⟩
   have hb2:Below wr.heap.size wr w2:=bel (bel bx (below_drewN (Below.refl _ _) _)) hb2'
   have hX2:=blk_below (bel (below_drewN (Below.refl wx.heap.size wx) _) hb2') hXB
   have hP2:=hP.below hb2
   have hT2:=hT.below hb2
   have hbw2:=bel hb hb2
   have hcell2:=hT2.cell hv
   have hs2:wr.heap.size < w2.heap.size:=lt_of_block hX2
   clear hb2' hXB x0 x1 x2 x3 bx p0 p1 c0 c1 c2 c3 hcell hT hP hb
   have x0:=blk_cell hX2 0 _ rfl
   have x1:=blk_cell hX2 1 _ rfl
   have x2:=blk_cell hX2 2 _ rfl
   have x3:=blk_cell hX2 3 _ rfl
   cases hc:G.carries ⟨a,tt,mi,li⟩ k
   ·have HC:=Lib.hid (G.table_no (l:=l.take j) (m:=m) hc)
    go_wp2_with fail
    go_roundw
    case rel=>exact ⟨j + 1,by go_num,by omega,hP2,⟨vals,by rw [HTK.out,HC.out];exact hT2⟩,hbw2⟩
    case measure=>simp [intOf];omega
   ·have HC:=Lib.hid (G.table_yes (l:=l.take j) (m:=m) hc rfl ham)
    have hgr:r=G.nexts k (l.take j) a:=by
     rw [G.table_get ham] at hr
     injection hr with hr;exact hr.symm
    have hrl:r.length≤600:=by
     have:=G.nexts_len k (l.take j) a
     rw [List.length_take] at this
     have:=hl.1
     rw [hgr];omega
    have HGR:=Lib.hid hgr
    have HV:=Lib.hid hv
    have HR:=Lib.hid hr
    have HOW:=hT2.own a v r hv hr
    have HNE:=hT2.ne a v hv
    have own1:∀ y z:Int,((w2.alloc (.cells #[.int .i64 y,.int .i64 z] 245)).drew).ownsRow (w.heap.size + 1) 245 2 v r.length (r.flatMap pairCells):=fun y z=>own_below HOW (((Below.refl _ _).alloc (Nat.le_refl _) _).drew)
    have new1:∀ j u,([.int .i64 mi,.int .i64 tt]:List Value)[j]? = some u→((w2.alloc (.cells #[.int .i64 mi,.int .i64 tt] 245)).drew).cell? ((⟨w2.heap.size,0,none⟩:Addr).add j)=some u:=World.news_of_block (heap_alloc_new w2 _)
    have le1:r.length + 1≤maxLen:=by unfold maxLen;omega
    have le2:(r.length + 1) * 16≤140737488355328:=by omega
    have HZ:((w2.alloc (.cells #[.int .i64 mi,.int .i64 tt] 245)).drew).heap.size=w2.heap.size + 1:=by
     show (w2.alloc _).heap.size=_
     rw [World.size_alloc]
    have hws:=hbw2.size
    have le3:w.heap.size + 1≤((w2.alloc (.cells #[.int .i64 mi,.int .i64 tt] 245)).drew).heap.size:=by rw [HZ];omega
    have hblk1:((w2.alloc (.cells #[.int .i64 mi,.int .i64 tt] 245)).drew).heap[w.heap.size + 1]? = some (.cells vals.toArray 243 (0,0)):=blk_alloc hT2.blk _
    have cqa:(w2.alloc (.cells #[.int .i64 mi,.int .i64 tt] 245)).cell? ⟨w.heap.size + 1,a,none⟩=some v:=blk_cell (blk_alloc hT2.blk _) a _ (by simpa using hv)
    obtain ⟨i0,hi,hz0,hz1,hz2⟩:=info_parts Tryz.info245
    clear hgr hv hr hc hws
    go_wp2_with fail
    go_region_law (refine step_append_lies _ rfl (.tmp 46) (.tmp 51) 243 rfl (w.heap.size + 1) 245 i0 (.agg #[.int .i64 0,.int .i64 0]) 2 16 Tryz.underlying243 hi hz0 hz1 hz2 rfl (by decide) v r.length (r.flatMap pairCells) rfl (own1 _ _) ⟨w2.heap.size,0,none⟩ 1 1 [.int .i64 mi,.int .i64 tt] rfl rfl new1 (pairs_one mi tt) Nat.one_pos le1 le2 le3 _ HZ ?_;intro g4 cap4 w4 hown4 hgrow4 hlies hlt4;have hV4:=grow_blk hgrow4 hblk1 (fun e=>HNE e.symm);have v40:=blk_cell hV4 a _ (by simpa using HV.out);have vf4:w4.frozen? ⟨w.heap.size + 1,a,none⟩=false:=by simp [World.frozen?,hV4])
    all_goals go_wp2_with fail
    all_goals
     go_roundw
     case rel =>
      have h9:=row_step hT2 hP2 hbw2 HV.out HR.out hown4 hgrow4 hlies
      exact ⟨j + 1,by go_num,by omega,h9.1,⟨_,by rw [HTK.out,HC.out,←HGR.out];exact h9.2.1⟩,h9.2.2⟩
     case measure=>simp [intOf];omega
  ·have hjn:j=n:=by omega
   have htk:l.take j=l:=List.take_of_length_le (by rw [←hl.1];omega)
   rw [htk] at hT
   have hA:=hT.adj
   have hbw:=hb
   obtain ⟨wA,hwA⟩:∃ wA:World,wA=wr:=⟨_,rfl⟩
   rw [←hwA] at hA hP hb p0 p1 hbw ⊢
   have SZA:=World.size_alloc wA (.cells (intCells (List.replicate m 0)).toArray 3)
   have hI0:IBlk (wA.alloc (.cells (intCells (List.replicate m 0)).toArray 3)) wA.heap.size (List.replicate m 0):=heap_alloc_new wA _
   clear hT htk hwA b0 hP0 SZ hjn hj
   go_wp2_with fail
   go_loopw [60] (fun vi w3=>∃ i:Nat,vi=.int .i64 i∧i≤m∧IBlk w3 wA.heap.size (List.replicate i (-1) ++ List.replicate (m - i) 0)∧Below wA.heap.size wA w3) (fun vi _=>m - (intOf vi).toNat)
   case atStart=>exact ⟨0,rfl,by omega,by simpa using hI0,(Below.refl _ _).alloc (Nat.le_refl _) _⟩
   case round =>
    obtain ⟨i,rfl,hi,hI,hb3⟩:=hrel
    by_cases him:i < m
    ·have i0:(0:Int)≤(i:Int):=by omega
     have i1:(i:Int) < (m:Int):=by omega
     have hz:(List.replicate i (-1:Int) ++ List.replicate (m - i) 0)[i]? = some 0:=by
      rw [List.getElem?_append_right (by simp),List.length_replicate,Nat.sub_self,List.getElem?_replicate,if_pos (show 0 < m - i by omega)]
     have hc0:=hI.cell hz
     have hf0:=hI.free i
     have hI9:=Lib.hid (hI.set i (-1))
     clear hz
     go_wp2_with fail
     go_roundw
     case rel=>exact ⟨i + 1,by go_num,by omega,by rw [←filled_next m i him];exact hI9.out,hb3.setCell (Nat.le_refl _) _⟩
     case measure=>simp [intOf];omega
    ·obtain rfl:m=i:=by omega
     rw [Nat.sub_self,List.replicate_zero,List.append_nil] at hI
     obtain ⟨wB,hwB⟩:∃ wB:World,wB=wr:=⟨_,rfl⟩
     rw [←hwB] at hI hb3 ⊢
     have hAB:wA.heap.size < wB.heap.size:=hI.lt
     have hH0:=Heaped.first wB s
     have hb4:Below wB.heap.size wB ((wB.alloc (.cells #[.int .i64 0,.int .i64 s] 245)).alloc (.cells #[.slice (some ⟨wB.heap.size,0,none⟩) 1 1] 247)):=((Below.refl _ _).alloc (Nat.le_refl _) _).alloc (by rw [World.size_alloc];omega) _
     have hI4:=hI.below hb4 hI.lt
     have hb5:=bel hb3 hb4
     have HB:=Lib.hid hbw
     have hml:m * l.length≤60000:=Nat.mul_le_mul hm (show l.length≤600 by rw [←hl.1];exact hn)
     have HML:=Lib.hid hml
     clear hwB hb hI hb3 hb4 hbw hml p0 p1 hP hI0 SZA
     go_wp2_with fail
     go_loopg [18] (G.undone (List.replicate m (-1)) * (l.length + 1) + 1) (fun gk _ wr=>∃ out q,SRel m l k s wA wB.heap.size gk wr out q)
     case atStart=>exact ⟨_,_,rfl,G.Run.first ⟨by omega,by omega⟩,hI4,hH0,hb5⟩
     case round =>
      clear hI4 hH0 hb5
      obtain ⟨out,q,hS⟩:=hrel
      have HS:=Lib.hid hS
      obtain ⟨-,hRun,hI,hH,hb⟩:=hS
      have hql:q.length≤60001:=by have:=hRun.len;have:=HML.out;omega
      have HR:=Lib.hid hRun
      obtain ⟨v,hQ,hh⟩:=id hH
      obtain ⟨A9,c9,hv,hP9⟩:=hQ.form
      have cq:wr.cell? ⟨wB.heap.size + 1,0,none⟩=some v:=blk_cell hQ.blk 0 _ rfl
      subst hv
      clear hQ hh hP9 hRun
      by_cases h0:0 < q.length
      ·have h0':(0:Int) < (q.length:Int):=by omega
       go_wp2_with fail
       refine (qlen_any _ _ _ _).mono ?_
       rintro e w9 ⟨rfl,rfl⟩
       go_wp2_with fail
       refine (hpop_any wB.heap.size (wB.heap.size + 1) q _ hH (by omega) h0 (by omega)).mono ?_
       rintro e w4 ⟨x,q',rfl,hperm,hle,hH4,hbq,hkq⟩
       have hxm:=hperm.mem_iff.2 List.mem_cons_self
       obtain ⟨⟨hx0,hx1⟩,hx2⟩:=HR.out.inv.que x hxm
       obtain ⟨ht0,ht1⟩:=HR.out.time x hxm
       have hol:=HR.out.inv.len
       obtain ⟨t,vv⟩:=x
       obtain ⟨v,rfl⟩:∃ v:Nat,vv=(v:Int):=⟨vv.toNat,by simp only at hx0;omega⟩
       simp only at hx0 hx1 ht0 ht1 hx2
       have hvm:v < m:=by omega
       have ht2:t≤100000000:=by omega
       obtain ⟨y,hy⟩:∃ y,out[v]? = some y:=⟨_,List.getElem?_eq_getElem (by omega)⟩
       have hI4:=hI.below hbq hAB
       have hb4:Below wA.heap.size wA w4:=hb.trans (hbq.mono (by omega))
       have HPm:=Lib.hid hperm
       have HLe:=Lib.hid hle
       have HY:=Lib.hid hy
       have hta:=fun w'=>assert128 (.agg #[.int .i64 t,.int .i64 v]) w'
       have hb5:=hb4.alloc hb4.size (.cells #[.int .i64 t,.int .i64 v] 245)
       have ba:Below w4.heap.size w4 (w4.alloc (.cells #[.int .i64 t,.int .i64 v] 245)):=(Below.refl _ _).alloc (Nat.le_refl _) _
       have hI5:=hI4.below ba hI4.lt
       have hH5:=hH4.below ba
       have hAw:=hH4.away (.cells #[.int .i64 t,.int .i64 v] 245)
       have hSB:=heap_alloc_new w4 (.cells #[.int .i64 t,.int .i64 v] 245)
       have cya:=hI5.cell hy
       obtain ⟨w5,hw5⟩:∃ w5:World,w5=w4.alloc (.cells #[.int .i64 t,.int .i64 v] 245):=⟨_,rfl⟩
       rw [←hw5] at hb5 hI5 hH5 hAw hSB
       have cy:=hI4.cell hy
       have cy5:=hI5.cell hy
       have v0:(0:Int)≤(v:Int):=by omega
       have v1:(v:Int) < (m:Int):=by omega
       clear hx2 ht1 hxm hperm hle hy hol hb hI hH cq hb4 hkq hbq hql h0' ba
       cases hyy:(y == -1)
       ·have hyn:(y != -1)=true:=by simp [bne,hyy]
        have hd:G.at_ out (v:Int) ≠ -1:=by
         unfold G.at_
         rw [Int.toNat_natCast,HY.out]
         simpa using hyy
        have hx:=Lib.hid (HS.out.drop HPm.out hd hI5 hH5 hb5)
        clear hd hyy
        go_wp2_with fail
        rw [←hw5]
        obtain ⟨g2,hg2,hS2⟩:=hx.out
        go_roundg g2
        case rel=>exact ⟨_,_,hS2⟩
        case measure=>exact hg2
       ·have hyn:(y != -1)=false:=by simp [bne,hyy]
        have hy1:y=-1:=by simpa using hyy
        have hsz5:=World.size_alloc w4 (.cells #[.int .i64 t,.int .i64 v] 245)
        subst hy1
        subst hw5
        have hfr:=hI5.free v
        have hI6:=hI5.set v t
        have hb6:Below wA.heap.size wA ((w4.alloc (.cells #[.int .i64 t,.int .i64 v] 245)).setCell ⟨wA.heap.size,v,none⟩ (.int .i64 t)):=hb5.setCell (Nat.le_refl _) _
        have hH6:=hH5.other (i:=v) (.int .i64 t) (show wA.heap.size ≠ wB.heap.size + 1 by omega) hAB
        have hqs:=hH4.lt
        have hSB6:=(Below.heap_setCell (w4.alloc (.cells #[.int .i64 t,.int .i64 v] 245)) ⟨wA.heap.size,v,none⟩ (.int .i64 t) w4.heap.size (show w4.heap.size ≠ wA.heap.size by omega)).trans hSB
        have hAw6:=away_set (i:=v) hAw (show wA.heap.size ≠ wB.heap.size + 1 by omega) (.int .i64 t)
        obtain ⟨A7,c7,hget⟩:=hA.get (G.table_get (k:=k) (l:=l) hvm)
        have hc7:=(hget _ hb6).1
        have hT0:TRel wA wB.heap.size w4.heap.size (t,(v:Int)) (G.nexts k l v) q' (out.set v t) 0 ((w4.alloc (.cells #[.int .i64 t,.int .i64 v] 245)).setCell ⟨wA.heap.size,v,none⟩ (.int .i64 t)) q':=⟨hH6,by simp,hI6,hb6,hSB6,hAw6⟩
        have HGET:=Lib.hid hget
        obtain ⟨d,hd⟩:∃ d,d=(G.nexts k l v).length:=⟨_,rfl⟩
        have hnl:=G.nexts_len k l v
        have hll:=hl.1
        rw [←hd] at hc7 hnl
        have HD:=Lib.hid hd
        have HT0:=Lib.hid hT0
        have hd9:d≤600:=by omega
        have HLL:=Lib.hid hll
        have sb0:=blk_cell hSB6 0 _ rfl
        have sb1:=blk_cell hSB6 1 _ rfl
        clear hget hd hll hnl hT0 hI6 hb6 hH6 hqs hSB6 hAw6 hsz5
        go_wp2_with fail
        obtain ⟨w6,hw6⟩:∃ w6:World,w6=(w4.alloc (.cells #[.int .i64 t,.int .i64 v] 245)).setCell ⟨wA.heap.size,v,none⟩ (.int .i64 t):=⟨_,rfl⟩
        rw [←hw6] at HT0 ⊢
        clear hw6 hI5 hH5 hAw hSB cya cy5 cy hc7 sb0 sb1 hb5 hfr hI4 hH4
        go_loopw [105] (fun vi wr4=>∃ (i:Nat) (q2:List P),vi=.int .i64 i∧i≤d∧TRel wA wB.heap.size w4.heap.size (t,(v:Int)) (G.nexts k l v) q' (out.set v t) i wr4 q2) (fun vi _=>d - (intOf vi).toNat)
        case atStart=>exact ⟨0,q',rfl,by omega,HT0.out⟩
        case round =>
         obtain ⟨i,q2,rfl,hid9,hTR⟩:=hrel
         have HTR:=Lib.hid hTR
         obtain ⟨hH7,hq7,hI7,hb7,hSB7,hAw7⟩:=hTR
         by_cases hlt4:i < d
         ·have hP7:=(HGET.out _ hb7).2
          have hlq:q2.length≤70000:=by
           have e1:=hq7.length_eq
           have e2:=HPm.out.length_eq
           have e3:=HR.out.len
           have e4:=HML.out
           simp at e1 e2
           omega
          rw [←HD.out] at hP7
          obtain ⟨ad7,y,rfl,hy7,y0,y1⟩:=Pairs.at_ hP7 hlt4
          obtain ⟨z,hz,hzc,hzf,hzy⟩:=G.nexts_mem.1 (List.mem_of_getElem? hy7)
          have hm1:=HMIN.out z hz
          have hm0:=(HF.out z hz).2.2
          obtain ⟨yt,yn⟩:=y
          injection hzy with e1 e2
          subst e1 e2
          simp only at y0 y1
          have HY7:=Lib.hid hy7
          have hTa:=HTR.out.alloc (.cells #[.int .i64 z.mins,.int .i64 z.tt] 245)
          have HTa:=Lib.hid hTa
          have sa0:=blk_cell hSB7 0 _ rfl
          have sb1:=blk_cell hSB7 1 _ rfl
          have hsa:=blk_cell hTa.2.2.2.2.1 0 _ rfl
          have hsz9:wB.heap.size + 1 < wr.heap.size:=hH7.lt
          clear hP7 hy7 hTa hz hzc hzf hq7 hI7 hSB7 hAw7 hH7
          go_wp2_with fail
          refine (hpush_any wB.heap.size (wB.heap.size + 1) q2 (t + z.mins,z.tt) _ HTa.out.1 (by omega) (by omega)).mono ?_
          rintro e w8 ⟨rfl,hpu⟩
          have hTn:=Lib.hid (HTa.out.push HY7.out hAB hpu)
          clear hpu
          go_wp2_with fail
          obtain ⟨q3,hT3⟩:=hTn.out
          go_roundw
          case rel=>exact ⟨i + 1,q3,by go_num,by omega,hT3⟩
          case measure=>simp [intOf];omega
         ·have hie:i=(G.nexts k l v).length:=by rw [←HD.out];omega
          have HIE:=Lib.hid hie
          obtain ⟨g2,hg2,hS2⟩:=SRel.next (n:=i) ⟨by omega,by omega⟩ HF.out HMIN.out HS.out HPm.out HLe.out HY.out hie HTR.out
          have HS2:=Lib.hid hS2
          clear hie hH7 hq7 hI7 hb7 hSB7 hAw7 hS2
          go_wp2_with fail
          go_roundg g2
          case rel=>exact ⟨_,_,HS2.out⟩
          case measure=>exact hg2
      ·have hq0:q=[]:=List.length_eq_zero_iff.1 (by omega)
       have hD:=HR.out.inv
       rw [hq0] at hD
       have hD2:=Lib.hid (hD.dist HF.out ⟨by omega,by omega⟩)
       have hB2:=Lib.hid (bel HB.out hb)
       clear hq0 hD HS HR
       go_wp2_with fail
       refine (qlen_any _ _ _ _).mono ?_
       rintro e w9 ⟨rfl,rfl⟩
       go_wp2_with fail
       go_ret
       exact ⟨wA.heap.size,out,rfl,HB.out.size,hI,hD2.out,hB2.out⟩
def K.times (nd:Int) (l:List Ro) (s k:Int):List Int:=if (K.netErr nd l == 0 && T.btw s 0 (nd - 1))=true then G.rounds k l nd.toNat ((List.replicate nd.toNat (-1)).set s.toNat 0) else []
theorem K.times_dist {m:Nat} {l:List Ro} {s k:Int} (h:K.netErr m l=0) (hs:T.btw s 0 ((m:Int) - 1)=true):G.Dist m l k s (K.times m l s k):=by
 have h1:=K.netErr_ok h
 have h2:=T.btw_iff.1 hs
 unfold K.times
 rw [if_pos (by rw [h,hs];rfl),Int.toNat_natCast]
 exact G.rounds_dist h1.2.2.1 (by omega)
theorem K.times_nil {nd:Int} {l:List Ro} {s k:Int} (h:(K.netErr nd l == 0 && T.btw s 0 (nd - 1))=false):K.times nd l s k=[]:=by
 unfold K.times
 rw [if_neg (by simp [h])]
def RetInts (w w':World) (l:List Int) (e:Ending):Prop:=(∃ A n c,e=.returned (.slice A n c)∧Ints w' A n l)∧Below w.heap.size w w'
set_option maxRecDepth 100000 in
set_option maxHeartbeats 4000000 in
theorem times_any (nd:Int) (A:Option Addr) (n c:Nat) (l:List Ro) (s k:Int) (w:World) (hl:Roads w A n l) (hn:n≤1000000000) :
  Calls Tryz.prog 192 #[.agg #[.int .i64 nd,.slice A n c],.int .i64 s,.int .i64 k] w fun e w'=>RetInts w w' (K.times nd l s k) e:=by
 have b0:=(Below.refl w.heap.size w).alloc (Nat.le_refl _) (.cells #[.int .i64 nd,.slice A n c] 24)
 have hP:=Net.new w nd A n c
 have p0:=hP.c0
 have p1:=hP.c1
 cases h1:(K.netErr nd l == 0)
 ·have HX:=Lib.hid (K.times_nil (s:=s) (k:=k) (show (K.netErr nd l == 0 && T.btw s 0 (nd - 1))=false by simp [h1]))
  have h1':(K.netErr nd l != 0)=true:=by simp [bne,h1]
  go_enter Tryz.func192,Tryz.ntmps192
  go_wp2_with fail
  refine (netcheck_any nd A n c l _ (hl.below b0) hn).mono ?_;rintro e w1 ⟨rfl,hb1⟩
  go_wp2_with fail
  go_ret
  exact ⟨⟨none,0,0,rfl,by rw [HX.out];exact ints_nil _⟩,bel b0 hb1⟩
 ·have h1':(K.netErr nd l != 0)=false:=by simp [bne,h1]
  have hne:K.netErr nd l=0:=by simpa using h1
  have HE:=Lib.hid hne
  obtain ⟨⟨n0,n1⟩,hl6,hfine,hmin⟩:=K.netErr_ok hne
  clear hne
  cases h2:T.btw s 0 (nd - 1)
  ·have HX:=Lib.hid (K.times_nil (k:=k) (show (K.netErr nd l == 0 && T.btw s 0 (nd - 1))=false by simp [h2]))
   go_enter Tryz.func192,Tryz.ntmps192
   go_wp2_with fail
   refine (netcheck_any nd A n c l _ (hl.below b0) hn).mono ?_;rintro e w1 ⟨rfl,hb1⟩
   have hP1:=hP.below hb1
   have p0:=hP1.c0
   have p1:=hP1.c1
   go_wp2_with fail
   refine (in_any _ _ _ _).mono ?_;rintro e w' ⟨rfl,rfl⟩
   go_wp2_with fail
   go_ret
   exact ⟨⟨none,0,0,rfl,by rw [HX.out];exact ints_nil _⟩,bel b0 hb1⟩
  ·obtain ⟨s0,s1⟩:=T.btw_iff.1 h2
   obtain ⟨m,rfl⟩:∃ m:Nat,nd=(m:Int):=⟨nd.toNat,by omega⟩
   obtain ⟨t,rfl⟩:∃ t:Nat,s=(t:Int):=⟨s.toNat,by omega⟩
   have HT:=Lib.hid (K.times_dist (k:=k) HE.out h2)
   have HF:=Lib.hid hfine
   have HM:=Lib.hid hmin
   clear hfine hmin
   go_enter Tryz.func192,Tryz.ntmps192
   go_wp2_with fail
   refine (netcheck_any m A n c l _ (hl.below b0) hn).mono ?_;rintro e w1 ⟨rfl,hb1⟩
   have hP1:=hP.below hb1
   have p0:=hP1.c0
   have p1:=hP1.c1
   go_wp2_with fail
   refine (in_any _ _ _ _).mono ?_;rintro e w' ⟨rfl,rfl⟩
   go_wp2_with fail
   refine (search_any m A n c l t k _ (hl.below (bel b0 hb1)) (by rw [hl.1];omega) (by omega) HF.out HM.out (by omega)).mono ?_
   rintro e w2 ⟨g,out,rfl,hg,hI,hD,hb2⟩
   have HE2:=Lib.hid (G.Dist.eq HT.out hD)
   have hol:=hD.1
   have HOL:=Lib.hid hol
   clear hD hol
   go_wp2_with fail
   go_ret
   have hi:=hI.ints
   rw [HOL.out] at hi
   exact ⟨⟨_,_,_,rfl,by rw [HE2.out];exact hi⟩,bel (bel b0 hb1) hb2⟩
namespace G
def Bd (out:List Int) (B:Nat):Prop:=∀ x ∈ out,-1≤x∧x≤1000000 * (B:Int)
theorem Bd.mono {out:List Int} {B C:Nat} (h:Bd out B) (hB:B≤C):Bd out C:=fun x hx=>by have:=h x hx;omega
theorem at_get {out:List Int} {v:Nat} {y:Int} (h:out[v]? = some y):at_ out (v:Int)=y:=by unfold at_;rw [Int.toNat_natCast,h];rfl
end G
end Go.Proofs.YtippdjmpkafifaaGreat
