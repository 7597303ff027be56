import Derived.Test.YtippdjmpkafifaaGreatCR1
import Derived.Test.YtippdjmpkafifaaGreatCR2
import Derived.Deep.RegionLaw
import Derived.Deep.OwnRows
import Derived.Deep.LoopGhost
set_option maxRecDepth 100000
set_option maxHeartbeats 64000000
namespace Go.Proofs.YtippdjmpkafifaaGreat
open Go.RowKit
def qN (x:Ro):List Value:=[.int .i64 x.fr,.int .i64 x.tt,.int .i64 x.f_,.int .i64 x.lim]
abbrev gq (w:World) (A:aj) (n:Nat) (l:List Ro):Prop:=aX qN 4 w A n l
theorem gq.at_ {w:World} {A:aj} {n k:Nat} {l:List Ro} (h:gq w A n l) (hk:k < n) :
  ∃ ad x,A=some ad/\l[k]? = some x/\w.cell? (ad.add (k * 4))=some (.int .i64 x.fr)/\w.cell? ⟨(ad.add (k * 4)).block,(ad.add (k * 4)).off + 1,none⟩=some (.int .i64 x.tt) /\
   w.cell? ⟨(ad.add (k * 4)).block,(ad.add (k * 4)).off + 2,none⟩=some (.int .i64 x.f_)/\w.cell? ⟨(ad.add (k * 4)).block,(ad.add (k * 4)).off + 3,none⟩=some (.int .i64 x.lim):=by
 obtain ⟨ad,x,hA,hl,hc⟩:=aX.get (f:=qN) (s:=4) (λ_=>rfl) h hk;refine ⟨ad,x,hA,hl,hc 0 _ (by omega) rfl,?_,?_,?_⟩ <;> rw [<-pO _ _ _ (by omega)]
 ·exact hc 1 _ (by omega) rfl
 ·exact hc 2 _ (by omega) rfl
 ·exact hc 3 _ (by omega) rfl
structure N where
 nodes:Int
 A:Option Addr
 n:Nat
 c:Nat
 l:List Ro
def N.val (x:N):Value:=.agg #[.int .i64 x.nodes,.slice x.A x.n x.c]
def Net (w:World) (b:Nat) (nd:Int) (A:aj) (n c:Nat):Prop:=w.heap[b]? = some (.cells #[.int .i64 nd,.slice A n c] 24 (0,0))
theorem Net.new (w:World) (nd:Int) (A:aj) (n c:Nat):Net (w.alloc (.cells #[.int .i64 nd,.slice A n c] 24)) w.heap.size nd A n c:=aA w _
theorem Net.below {w w':World} {b:Nat} {nd:Int} {A:aj} {n c:Nat} (h:Net w b nd A n c) (hb:af w w'):Net w' b nd A n c:=au hb h
theorem Net.c0 {w:World} {b:Nat} {nd:Int} {A:aj} {n c:Nat} (h:Net w b nd A n c):w.cell? ⟨b,0,none⟩=some (.int .i64 nd):=ah h 0 _ rfl
theorem Net.c1 {w:World} {b:Nat} {nd:Int} {A:aj} {n c:Nat} (h:Net w b nd A n c):w.cell? ⟨b,1,none⟩=some (.slice A n c):=ah h 1 _ rfl
namespace K
open T
def abV (x:Ro):Bool:=(x.lim == -1) || aT x.lim 1 1000000
def xe (n:Int) (x:Ro):Bool:=aT x.fr 0 (n - 1) && (aT x.tt 0 (n - 1) && !(x.fr == x.tt))
def xO (x:Ro):Bool:=aT x.f_ 1 1000000 && abV x
def qO (n:Int):List Ro->Int
 | []=>0
 | x :: l=>if xe n x=false then 1 else if xO x=false then 3 else qO n l
def aZ (nd:Int) (l:List Ro):Int:=if aT nd 0 100=false then 1 else if 600 < l.length then 6 else qO nd l
theorem ac_ {n:Int} {l:List Ro} {k:Nat} {x:Ro} (h:l[k]? = some x):qO n (l.drop k)=if xe n x=false then 1 else if xO x=false then 3 else qO n (l.drop (k + 1)):=by
 obtain ⟨hk,e⟩:=zE.1 h;rw [jE hk,e];rfl
theorem ac' (n:Int) (x:Ro) :
  (aT x.fr 0 (n - 1)=false/\xe n x=false)\/(aT x.fr 0 (n - 1)=true/\aT x.tt 0 (n - 1)=false/\xe n x=false)\/(aT x.fr 0 (n - 1)=true/\aT x.tt 0 (n - 1)=true/\(x.fr == x.tt)=true/\xe n x=false) \/
  (aT x.fr 0 (n - 1)=true/\aT x.tt 0 (n - 1)=true/\(x.fr == x.tt)=false/\xe n x=true /\
   ((aT x.f_ 1 1000000=false/\xO x=false)\/(aT x.f_ 1 1000000=true/\(x.lim != -1)=true/\(x.lim == -1)=false/\aT x.lim 1 1000000=false/\xO x=false) \/
    (aT x.f_ 1 1000000=true/\(x.lim != -1)=true/\(x.lim == -1)=false/\aT x.lim 1 1000000=true/\xO x=true)\/(aT x.f_ 1 1000000=true/\(x.lim != -1)=false/\(x.lim == -1)=true/\xO x=true))):=by
 unfold xe xO abV bne;cases aT x.fr 0 (n - 1) <;> cases aT x.tt 0 (n - 1) <;> cases (x.fr == x.tt) <;> cases aT x.f_ 1 1000000 <;> cases (x.lim == -1) <;> cases aT x.lim 1 1000000 <;> simp
end K
theorem vN (n lo hi:Int) (w:World):ay 172 #[.int .i64 n,.int .i64 lo,.int .i64 hi] w λe w'=>e=.returned (.bool (T.aT n lo hi))/\w=w':=by
 by_cases h:lo<=n
 ·go_enter Tryz.func172,Tryz.ntmps172;go_wp2
  all_goals (go_ret;exact ⟨aK (by simp [T.aT,h]),rfl⟩)
 ·have h':decide (lo<=n)=false:=by simpa using h
  have hh:=zC h;clear h;go_enter Tryz.func172,Tryz.ntmps172;go_wp2
  all_goals (go_ret;exact ⟨aK (by have:=hh.out;simp [T.aT];omega),rfl⟩)
theorem xN (nd:Int) (A:aj) (n c:Nat) (l:List Ro) (w:World) (hl:gq w A n l) (hn:n<=1000000000) :
  ay 123 #[.agg #[.int .i64 nd,.slice A n c]] w (og w (K.aZ nd l)):=by
 have b0:=(dK w).alloc (zG _) (.cells #[.int .i64 nd,.slice A n c] 24);cases h1:T.aT nd 0 100
 ·have HX:=zC (show K.aZ nd l=1 by simp [K.aZ,h1]);go_enter Tryz.func123,Tryz.ntmps123;go_wp2_with (first | (go_at_call 172;refine (vN _ _ _ _).mono ?_;rintro e w' ⟨rfl,rfl⟩) | fail);go_ret;exact ⟨jm HX.out.symm,b0⟩
 ·by_cases h6:600 < n
  ·have HX:=zC (show K.aZ nd l=6 by simp [K.aZ,h1,<-hl.1,h6]);go_enter Tryz.func123,Tryz.ntmps123;go_wp2_with (first | (go_at_call 172;refine (vN _ _ _ _).mono ?_;rintro e w' ⟨rfl,rfl⟩) | fail);go_ret;exact ⟨jm HX.out.symm,b0⟩
  ·have HX:=zC (show K.aZ nd l=K.qO nd l by simp [K.aZ,h1,<-hl.1,h6]);have h66:decide (600 < (n:Int))=false:=by simp;omega
   obtain ⟨ahH,hnd1⟩:=T.lS.1 h1;have hP:=Net.new w nd A n c;go_enter Tryz.func123,Tryz.ntmps123;go_wp2_with (first | (go_at_call 172;refine (vN _ _ _ _).mono ?_;rintro e w' ⟨rfl,rfl⟩) | fail);go_loopw [18] (λvi wr=>∃ k:Nat,vi=.int .i64 k/\k<=n/\Hid (K.aZ nd l=K.qO nd (l.drop k))/\Net wr w.heap.size nd A n c/\af w wr) (λvi _=>n - (intOf vi).toNat)
   case atStart=>exact ⟨0,rfl,by omega,HX.out,hP,b0⟩
   case round =>
    obtain ⟨k,rfl,hk,hr,hP,hb⟩:=hrel;have p0:=hP.c0;have p1:=hP.c1;by_cases hlt:k < n
    ·obtain ⟨ad,x,rfl,hx,c0,c1,c2,c3⟩:=gq.at_ (hl.below hb) hlt;have HS:=zC (K.ac_ (n:=nd) hx);have HC:=zC (K.ac' nd x);clear hx;obtain ⟨fr,tt,mi,li⟩:=x;simp only at HC c0 c1 c2 c3;have ba:=hb.alloc hb.size (.cells #[.int .i64 fr,.int .i64 tt,.int .i64 mi,.int .i64 li] 134);have hPa:=hP.below (ai.alloc (zG _) (.cells #[.int .i64 fr,.int .i64 tt,.int .i64 mi,.int .i64 li] 134));have pa0:=hPa.c0;rcases HC.out with ⟨g1,hf⟩ | ⟨g1,g2,hf⟩ | ⟨g1,g2,g3,hf⟩ | ⟨g1,g2,g3,hf,⟨g4,ho⟩ | ⟨g4,g5,g6,g7,ho⟩ | ⟨g4,g5,g6,g7,ho⟩ | ⟨g4,g5,g6,ho⟩⟩
     iterate 3
      ·have HE:=zC (show K.aZ nd l=1 by rw [hr.out,HS.out,hf];simp);clear hf hr HS HC;go_wp2_with (first | (go_at_call 172;refine (vN _ _ _ _).mono ?_;rintro e w' ⟨rfl,rfl⟩) | fail);go_ret;exact ⟨jm HE.out.symm,ba⟩
     iterate 2
      ·have HE:=zC (show K.aZ nd l=3 by rw [hr.out,HS.out,hf,ho];simp);clear hf ho hr HS HC;go_wp2_with (first | (go_at_call 172;refine (vN _ _ _ _).mono ?_;rintro e w' ⟨rfl,rfl⟩) | fail);go_ret;exact ⟨jm HE.out.symm,ba⟩
     iterate 2
      ·have HE:=zC (show K.aZ nd l=K.qO nd (l.drop (k + 1)) by rw [hr.out,HS.out,hf,ho];simp);clear hf ho hr HS HC;go_wp2_with (first | (go_at_call 172;refine (vN _ _ _ _).mono ?_;rintro e w' ⟨rfl,rfl⟩) | fail);go_roundw
       case rel=>exact ⟨k + 1,by go_num,by omega,HE.out,hPa,ba⟩
       case measure=>simp [intOf];omega
    ·have HE:=zC (show K.aZ nd l=0 by rw [hr.out,dF (by rw [<-hl.1];omega)];rfl);clear hr HX;go_wp2_with fail;go_ret;exact ⟨jm HE.out.symm,hb⟩
theorem afI (fr tt mi li:Int) (k:Int) (w:World):ay 213 #[.agg #[.int .i64 fr,.int .i64 tt,.int .i64 mi,.int .i64 li],.int .i64 k] w (bg w (G.carries ⟨fr,tt,mi,li⟩ k)):=by
 have b0:=(dK w).alloc (zG _) (.cells #[.int .i64 fr,.int .i64 tt,.int .i64 mi,.int .i64 li] 134);cases h:(li == -1)
 ·have HX:=zC (show G.carries ⟨fr,tt,mi,li⟩ k=decide (k<=li) by simp [G.carries,h]);go_enter Tryz.func213,Tryz.ntmps213;go_wp2_with fail;go_ret;exact ⟨aK HX.out.symm,b0⟩
 ·have HX:=zC (show G.carries ⟨fr,tt,mi,li⟩ k=true by simp [G.carries,h]);go_enter Tryz.func213,Tryz.ntmps213;go_wp2_with fail;go_ret;exact ⟨aK HX.out.symm,b0⟩
theorem akk (fr tt mi li:Int) (k:Int) (w:World):ay 195 #[.agg #[.int .i64 fr,.int .i64 tt,.int .i64 mi,.int .i64 li],.int .i64 k] w (bg w (G.carries ⟨fr,tt,mi,li⟩ k)):=by
 have b0:=(dK w).alloc (zG _) (.cells #[.int .i64 fr,.int .i64 tt,.int .i64 mi,.int .i64 li] 134);cases h:(li == -1)
 ·have HX:=zC (show G.carries ⟨fr,tt,mi,li⟩ k=decide (k<=li) by simp [G.carries,h]);go_enter Tryz.func195,Tryz.ntmps195;go_wp2_with fail;go_ret;exact ⟨aK HX.out.symm,b0⟩
 ·have HX:=zC (show G.carries ⟨fr,tt,mi,li⟩ k=true by simp [G.carries,h]);go_enter Tryz.func195,Tryz.ntmps195;go_wp2_with fail;go_ret;exact ⟨aK HX.out.symm,b0⟩
theorem T.afG (i nd:Int):T.aT i 0 (nd - 1)=(decide (0<=i) && decide (i < nd)):=by
 unfold T.aT;congr 1;rw [Bool.eq_iff_iff];simp;omega
theorem Dn (nd:Int) (A:aj) (n c:Nat) (i:Int) (w:World):ay 166 #[.agg #[.int .i64 nd,.slice A n c],.int .i64 i] w (bg w (T.aT i 0 (nd - 1))):=by
 have b0:=(dK w).alloc (zG _) (.cells #[.int .i64 nd,.slice A n c] 24);have HX:=zC (T.afG i nd);cases h:decide (0<=i)
 ·have HY:=zC h;go_enter Tryz.func166,Tryz.ntmps166;go_wp2_with fail;go_ret;exact ⟨aK (by rw [HX.out,HY.out];rfl),b0⟩
 ·have HY:=zC h;go_enter Tryz.func166,Tryz.ntmps166;go_wp2_with fail;go_ret;exact ⟨aK (by rw [HX.out,HY.out];rfl),b0⟩
theorem T.Qx {x lo hi:Int} (h:T.aT x lo hi=false):x < lo\/(lo<=x/\hi < x):=by
 simp [T.aT] at h;omega
theorem Jf (nd:Int) (A:aj) (n c:Nat) (l:List Ro) (w:World) (hl:gq w A n l) (hn:n<=1000000000) :
  ay 117 #[.agg #[.int .i64 nd,.slice A n c]] w (og w (K.aZ nd l)):=by
 have b0:=(dK w).alloc (zG _) (.cells #[.int .i64 nd,.slice A n c] 24);cases h1:T.aT nd 0 100
 ·have HX:=zC (show K.aZ nd l=1 by simp [K.aZ,h1]);rcases T.Qx h1 with h | ⟨h,h'⟩
  all_goals
   go_enter Tryz.func117,Tryz.ntmps117;go_wp2_with fail;go_ret;exact ⟨jm HX.out.symm,b0⟩
 ·obtain ⟨ahH,hnd1⟩:=T.lS.1 h1;by_cases h6:600 < n
  ·have HX:=zC (show K.aZ nd l=6 by simp [K.aZ,h1,<-hl.1,h6]);go_enter Tryz.func117,Tryz.ntmps117;go_wp2_with fail;go_ret;exact ⟨jm HX.out.symm,b0⟩
  ·have HX:=zC (show K.aZ nd l=K.qO nd l by simp [K.aZ,h1,<-hl.1,h6]);have h66:decide (600 < (n:Int))=false:=by simp;omega
   have hP:=Net.new w nd A n c;go_enter Tryz.func117,Tryz.ntmps117;go_wp2_with fail;go_loopw [3] (λvi wr=>∃ k:Nat,vi=.int .i64 k/\k<=n/\Hid (K.aZ nd l=K.qO nd (l.drop k))/\Net wr w.heap.size nd A n c/\af w wr) (λvi _=>n - (intOf vi).toNat)
   case atStart=>exact ⟨0,rfl,by omega,HX.out,hP,b0⟩
   case round =>
    obtain ⟨k,rfl,hk,hr,hP,hb⟩:=hrel;have p0:=hP.c0;have p1:=hP.c1;by_cases hlt:k < n
    ·obtain ⟨ad,x,rfl,hx,c0,c1,c2,c3⟩:=gq.at_ (hl.below hb) hlt;have HS:=zC (K.ac_ (n:=nd) hx);have HC:=zC (K.ac' nd x);clear hx;obtain ⟨fr,tt,mi,li⟩:=x;simp only at HC c0 c1 c2 c3;have hX:=aA wr (.cells #[.int .i64 fr,.int .i64 tt,.int .i64 mi,.int .i64 li] 134);have hb:=hb.alloc hb.size (.cells #[.int .i64 fr,.int .i64 tt,.int .i64 mi,.int .i64 li] 134);have hP:=hP.below (ai.alloc (zG _) (.cells #[.int .i64 fr,.int .i64 tt,.int .i64 mi,.int .i64 li] 134));have pa0:=hP.c0;have pa1:=hP.c1;rcases HC.out with ⟨g1,hf⟩ | ⟨g1,g2,hf⟩ | ⟨g1,g2,g3,hf⟩ | ⟨g1,g2,g3,hf,⟨g4,ho⟩ | ⟨g4,g5,g6,g7,ho⟩ | ⟨g4,g5,g6,g7,ho⟩ | ⟨g4,g5,g6,ho⟩⟩
     iterate 3
      ·have HE:=zC (show K.aZ nd l=1 by rw [hr.out,HS.out,hf];simp);clear hf hr HS HC;go_wp2_with (first | (go_at_call 166;refine (Dn _ _ _ _ _ _).mono ?_;rintro e w1 ⟨rfl,hb1⟩;have hP:=hP.below hb1;have hX:=au hb1 hX;have hb:=bel hb hb1;have p0:=hP.c0;have p1:=hP.c1;have x0:=ah hX 0 _ rfl;have x1:=ah hX 1 _ rfl;have x2:=ah hX 2 _ rfl;have x3:=ah hX 3 _ rfl) | fail);go_ret;exact ⟨jm HE.out.symm,hb⟩
     ·have HE:=zC (show K.aZ nd l=3 by rw [hr.out,HS.out,hf,ho];simp);clear hf ho hr HS HC;rcases T.Qx g4 with h | ⟨h,h'⟩
      all_goals
       go_wp2_with (first | (go_at_call 166;refine (Dn _ _ _ _ _ _).mono ?_;rintro e w1 ⟨rfl,hb1⟩;have hP:=hP.below hb1;have hX:=au hb1 hX;have hb:=bel hb hb1;have p0:=hP.c0;have p1:=hP.c1;have x0:=ah hX 0 _ rfl;have x1:=ah hX 1 _ rfl;have x2:=ah hX 2 _ rfl;have x3:=ah hX 3 _ rfl) | fail);go_ret;exact ⟨jm HE.out.symm,hb⟩
     ·have HE:=zC (show K.aZ nd l=3 by rw [hr.out,HS.out,hf,ho];simp);clear hf ho hr HS HC;obtain ⟨y0,y1⟩:=T.lS.1 g4;rcases T.Qx g7 with h | ⟨h,h'⟩
      all_goals
       go_wp2_with (first | (go_at_call 166;refine (Dn _ _ _ _ _ _).mono ?_;rintro e w1 ⟨rfl,hb1⟩;have hP:=hP.below hb1;have hX:=au hb1 hX;have hb:=bel hb hb1;have p0:=hP.c0;have p1:=hP.c1;have x0:=ah hX 0 _ rfl;have x1:=ah hX 1 _ rfl;have x2:=ah hX 2 _ rfl;have x3:=ah hX 3 _ rfl) | fail);go_ret;exact ⟨jm HE.out.symm,hb⟩
     ·have HE:=zC (show K.aZ nd l=K.qO nd (l.drop (k + 1)) by rw [hr.out,HS.out,hf,ho];simp);obtain ⟨y0,y1⟩:=T.lS.1 g4;obtain ⟨y2,y3⟩:=T.lS.1 g7;clear hf ho hr HS HC;go_wp2_with (first | (go_at_call 166;refine (Dn _ _ _ _ _ _).mono ?_;rintro e w1 ⟨rfl,hb1⟩;have hP:=hP.below hb1;have hX:=au hb1 hX;have hb:=bel hb hb1;have p0:=hP.c0;have p1:=hP.c1;have x0:=ah hX 0 _ rfl;have x1:=ah hX 1 _ rfl;have x2:=ah hX 2 _ rfl;have x3:=ah hX 3 _ rfl) | fail);go_roundw
      case rel=>exact ⟨k + 1,by go_num,by omega,HE.out,hP,hb⟩
      case measure=>simp [intOf];omega
     ·have HE:=zC (show K.aZ nd l=K.qO nd (l.drop (k + 1)) by rw [hr.out,HS.out,hf,ho];simp);obtain ⟨y0,y1⟩:=T.lS.1 g4;clear hf ho hr HS HC;go_wp2_with (first | (go_at_call 166;refine (Dn _ _ _ _ _ _).mono ?_;rintro e w1 ⟨rfl,hb1⟩;have hP:=hP.below hb1;have hX:=au hb1 hX;have hb:=bel hb hb1;have p0:=hP.c0;have p1:=hP.c1;have x0:=ah hX 0 _ rfl;have x1:=ah hX 1 _ rfl;have x2:=ah hX 2 _ rfl;have x3:=ah hX 3 _ rfl) | fail);go_roundw
      case rel=>exact ⟨k + 1,by go_num,by omega,HE.out,hP,hb⟩
      case measure=>simp [intOf];omega
    ·have HE:=zC (show K.aZ nd l=0 by rw [hr.out,dF (by rw [<-hl.1];omega)];rfl);clear hr HX;go_wp2_with fail;go_ret;exact ⟨jm HE.out.symm,hb⟩
def K.uV (nd:Int) (n:Nat):Bool:=(decide (nd<=12) || decide (100 < nd)) && decide (n<=40)
theorem akA (nd:Int) (A:aj) (n c:Nat) (w:World):ay 63 #[.agg #[.int .i64 nd,.slice A n c]] w (bg w (K.uV nd n)):=by
 have b0:=(dK w).alloc (zG _) (.cells #[.int .i64 nd,.slice A n c] 24);cases h1:decide (nd<=12)
 ·cases h2:decide (100 < nd)
  ·have HX:=zC (show K.uV nd n=false by simp [K.uV,h1,h2]);go_enter Tryz.func63,Tryz.ntmps63;go_wp2_with fail;go_ret;exact ⟨aK HX.out.symm,b0⟩
  ·have HX:=zC (show K.uV nd n=decide ((n:Int)<=40) by simp only [K.uV,h1,h2];simp;omega);go_enter Tryz.func63,Tryz.ntmps63;go_wp2_with fail;go_ret;exact ⟨aK HX.out.symm,b0⟩
 ·have HX:=zC (show K.uV nd n=decide ((n:Int)<=40) by simp only [K.uV,h1];simp;omega);go_enter Tryz.func63,Tryz.ntmps63;go_wp2_with fail;go_ret;exact ⟨aK HX.out.symm,b0⟩
namespace G
def ky (q:List (Int × Int)) (i:Nat):Int:=((q[i]?).getD (0,0)).1
def swap (q:List (Int × Int)) (i j:Nat):List (Int × Int):=(q.set i ((q[j]?).getD (0,0))).set j ((q[i]?).getD (0,0))
theorem uB (q:List (Int × Int)) (i j:Nat):(swap q i j).length=q.length:=by simp [swap]
theorem swap_perm {q:List (Int × Int)} {i j:Nat} (hi:i < q.length) (hj:j < q.length):(swap q i j).Perm q:=by
 unfold swap;rw [zF hi,zF hj];exact List.set_set_perm hi hj
theorem VK {q:List (Int × Int)} {i j:Nat} (hi:i < q.length) (hj:j < q.length) (k:Nat):(swap q i j)[k]? = if k=j then q[i]? else if k=i then q[j]? else q[k]?:=by
 unfold swap;by_cases h1:k=j
 ·subst h1;rw [if_pos rfl,List.getElem?_set_self (by rw [List.length_set];exact hj),zF hi];rfl
 ·rw [if_neg h1,List.getElem?_set_ne (Ne.symm h1)];by_cases h2:k=i
  ·subst h2;rw [if_pos rfl,List.getElem?_set_self hi,zF hj];rfl
  ·rw [if_neg h2,List.getElem?_set_ne (Ne.symm h2)]
theorem VL {q:List (Int × Int)} {i j:Nat} (hi:i < q.length) (hj:j < q.length) (k:Nat):ky (swap q i j) k=if k=j then ky q i else if k=i then ky q j else ky q k:=by
 unfold ky;rw [VK hi hj];split
 ·rfl
 ·split <;> rfl
def pF (q:List (Int × Int)) (n:Nat):Prop:=∀ k,0 < k->k < n->ky q ((k - 1) / 2)<=ky q k
theorem pF.first {q:List (Int × Int)} {n:Nat} (h:pF q n):∀ (m k:Nat),k<=m->k < n->ky q 0<=ky q k:=by
 intro m;induction m with
 | zero=>intro k hk _;have:k=0:=by omega
         subst this;exact Int.le_refl _
 | succ m ih =>
  intro k hk hn;by_cases h0:k=0
  ·subst h0;exact Int.le_refl _
  ·have h1:=h k (by omega) hn;have h2:=ih ((k - 1) / 2) (by omega) (by omega);omega
structure uQ (q:List (Int × Int)) (j:Nat):Prop where
 lt:j < q.length
 all:∀ k,0 < k->k < q.length->k ≠ j->ky q ((k - 1) / 2)<=ky q k
 kids:∀ k,0 < k->k < q.length->(k - 1) / 2=j->0 < j->ky q ((j - 1) / 2)<=ky q k
theorem uQ.push {q:List (Int × Int)} (x:Int × Int) (h:pF q q.length):uQ (q ++ [x]) q.length:=by
 have old:∀ k,k < q.length->ky (q ++ [x]) k=ky q k:=λk hk=>by unfold ky;rw [nJ hk]
 refine ⟨by simp,λk h0 hk hne=>?_,λk h0 hk hp _=>?_⟩
 ·simp at hk;rw [old k (by omega),old _ (by omega)];exact h k h0 (by omega)
 ·simp at hk;omega
theorem uQ.stop {q:List (Int × Int)} {j:Nat} (h:uQ q j) (hs:j=0\/ky q ((j - 1) / 2)<=ky q j):pF q q.length:=by
 intro k h0 hk;by_cases e:k=j
 ·subst e;rcases hs with hs | hs
  ·omega
  ·exact hs
 ·exact h.all k h0 hk e
theorem uQ.swap {q:List (Int × Int)} {j:Nat} (h:uQ q j) (h0:0 < j) (hlt:ky q j < ky q ((j - 1) / 2)):uQ (swap q ((j - 1) / 2) j) ((j - 1) / 2):=by
 have hj:=h.lt;have hi:(j - 1) / 2 < q.length:=by omega
 obtain ⟨p,hp⟩:=zB ((j - 1) / 2);rw [<-hp] at hi hlt ⊢;have hK:=VL hi hj;refine ⟨by rw [uB];exact hi,λk k0 hk hne=>?_,λk k0 hk hkp hp0=>?_⟩
 ·rw [uB] at hk;rw [hK k,hK ((k - 1) / 2)];by_cases e1:k=j
  ·subst e1;rw [if_pos rfl,<-hp];by_cases e2:p=k
   ·omega
   ·rw [if_neg e2,if_pos rfl];omega
  ·rw [if_neg e1,if_neg hne];have hall:=h.all k k0 hk e1;by_cases e2:(k - 1) / 2=j
   ·rw [if_pos e2];have:=h.kids k k0 hk e2 h0;rw [<-hp] at this;exact this
   ·rw [if_neg e2];by_cases e3:(k - 1) / 2=p
    ·rw [if_pos e3];rw [e3] at hall;omega
    ·rw [if_neg e3];exact hall
 ·rw [uB] at hk;rw [hK k,hK ((p - 1) / 2)];have e4:(p - 1) / 2 ≠ j:=by omega
  have e5:(p - 1) / 2 ≠ p:=by omega
  rw [if_neg e4,if_neg e5];have hpp:=h.all p hp0 hi (by omega);by_cases e1:k=j
  ·subst e1;rw [if_pos rfl];exact hpp
  ·rw [if_neg e1];by_cases e2:k=p
   ·omega
   ·rw [if_neg e2];have:=h.all k k0 hk e1;rw [hkp] at this;omega
structure uH (q:List (Int × Int)) (i n:Nat):Prop where
 le:n<=q.length
 all:∀ k,0 < k->k < n->(k - 1) / 2 ≠ i->ky q ((k - 1) / 2)<=ky q k
 kids:∀ k,0 < k->k < n->(k - 1) / 2=i->0 < i->ky q ((i - 1) / 2)<=ky q k
theorem uH.stop {q:List (Int × Int)} {i n:Nat} (h:uH q i n) (hs:∀ k,0 < k->k < n->(k - 1) / 2=i->ky q i<=ky q k):pF q n:=by
 intro k h0 hk;by_cases e:(k - 1) / 2=i
 ·have:=hs k h0 hk e;rw [e];exact this
 ·exact h.all k h0 hk e
theorem uH.swap {q:List (Int × Int)} {i j n:Nat} (h:uH q i n) (hj0:0 < j) (hj:j < n) (hp:(j - 1) / 2=i) (hmin:∀ k,0 < k->k < n->(k - 1) / 2=i->ky q j<=ky q k) (hlt:ky q j < ky q i):uH (G.swap q i j) j n:=by
 have hnl:=h.le;have hiq:i < q.length:=by omega
 have hjq:j < q.length:=by omega
 have hK:=VL hiq hjq;have hij:i ≠ j:=by omega
 refine ⟨by rw [uB];exact hnl,λk k0 hk hne=>?_,λk k0 hk hkp _=>?_⟩
 ·rw [hK k,hK ((k - 1) / 2),if_neg hne];by_cases e1:k=j
  ·subst e1;rw [if_pos rfl,hp,if_pos rfl];omega
  ·rw [if_neg e1];by_cases e3:(k - 1) / 2=i
   ·rw [if_pos e3];by_cases e2:k=i
    ·omega
    ·rw [if_neg e2];exact hmin k k0 hk e3
   ·rw [if_neg e3];have hall:=h.all k k0 hk e3;by_cases e2:k=i
    ·rw [if_pos e2];subst e2;exact h.kids j hj0 hj hp k0
    ·rw [if_neg e2];exact hall
 ·rw [hK k,hK ((j - 1) / 2),hp,if_neg hij,if_pos rfl];have e1:k ≠ j:=by omega
  have e2:k ≠ i:=by omega
  rw [if_neg e1,if_neg e2];have:=h.all k k0 hk (by omega);rw [hkp] at this;exact this
theorem uH.pop {q:List (Int × Int)} {n:Nat} (h:pF q q.length) (hn:q.length=n + 1):uH (G.swap q 0 n) 0 n:=by
 have hK:=VL (q:=q) (i:=0) (j:=n) (by omega) (by omega);refine ⟨by rw [uB];omega,λk k0 hk hne=>?_,λk _ _ _ h0=>absurd h0 (by omega)⟩;rw [hK k,hK ((k - 1) / 2),if_neg (show ¬ k=n by omega),if_neg (show ¬ k=0 by omega),if_neg (show ¬ (k - 1) / 2=n by omega),if_neg hne];exact h k k0 (by omega)
theorem aj8 {q r:List (Int × Int)} {n:Nat} {x:Int × Int} (hp:r.Perm q) (hr:pF r n) (hn:r.length=n + 1) (hx:r[n]? = some x):q.Perm (x :: r.take n)/\pF (r.take n) (r.take n).length:=by
 obtain ⟨h1,e1⟩:=zE.1 hx;have hsplit:r.take n ++ [x] = r:=by
  have:=List.take_append_drop n r;rw [jE h1,dF (by omega),e1] at this;exact this
 refine ⟨?_,?_⟩
 ·refine hp.symm.trans ?_;have h2:(r.take n ++ [x]).Perm (x :: r.take n):=List.perm_append_singleton x (r.take n);rw [hsplit] at h2;exact h2
 ·intro k k0 hk;rw [List.length_take,hn] at hk;have old:∀ i,i < n->ky (r.take n) i=ky r i:=λi hi=>by unfold ky;rw [List.getElem?_take,if_pos hi]
  rw [old k (by omega),old _ (by omega)];exact hr k k0 (by omega)
end G
theorem ai_ (ts : Array TypeId) (t : TypeId) (a : Addr) (s : String) (w : World) : (Builtin.ssaWrapNilChk_ ts t #[.pointer (some a), strVal "", strVal s]).run Tryz.prog w = .ok (.pointer (some a)) w := rfl
theorem UX {name:String} {f:Nat} (h0:(Tryz.t246.methods.find? (·.name == name)).map (λm=>(m.path,m.func))=some (#[],some (f,false)))
  {a:Addr} {w:World} {A:aj} {n c:Nat} (h:w.cell? a=some (.slice A n c)):(method 374 246 (.pointer (some a)) name).run Tryz.prog w=.ok (f,.slice A n c) w:=by
 cases em:Tryz.t246.methods.find? (·.name == name) with
 | none=>rw [em] at h0;cases h0
 | some m =>
  rw [em] at h0;simp only [Option.map_some,Option.some.injEq,Prod.mk.injEq] at h0;obtain ⟨hp,hf⟩:=h0;unfold method;simp [go_sem,em,hp,hf,follow,receiverAt,run_underlying Tryz.underlying246,h,Place.get,ai_]
theorem ai0 : (Tryz.t246.methods.find? (·.name == "Len")).map (fun m => (m.path, m.func)) = some (#[], some (214, false)) := by kernel_rfl
theorem ai1 : (Tryz.t246.methods.find? (·.name == "Less")).map (fun m => (m.path, m.func)) = some (#[], some (235, false)) := by kernel_rfl
theorem ai2 : (Tryz.t246.methods.find? (·.name == "Swap")).map (fun m => (m.path, m.func)) = some (#[], some (238, false)) := by kernel_rfl
theorem abA {a : Addr} {w : World} {A : aj} {n c : Nat} (h : w.cell? a = some (.slice A n c)) : (method 374 246 (.pointer (some a)) "Len").run Tryz.prog w = .ok (214, .slice A n c) w := UX ai0 h
theorem Nu {a : Addr} {w : World} {A : aj} {n c : Nat} (h : w.cell? a = some (.slice A n c)) : (method 374 246 (.pointer (some a)) "Less").run Tryz.prog w = .ok (235, .slice A n c) w := UX ai1 h
theorem I5 {a : Addr} {w : World} {A : aj} {n c : Nat} (h : w.cell? a = some (.slice A n c)) : (method 374 246 (.pointer (some a)) "Swap").run Tryz.prog w = .ok (238, .slice A n c) w := UX ai2 h
theorem aiY (a : Addr) (w : World) : (method 374 246 (.pointer (some a)) "Push").run Tryz.prog w = .ok (237, .pointer (some a)) w := by kernel_rfl
theorem aiX (a : Addr) (w : World) : (method 374 246 (.pointer (some a)) "Pop").run Tryz.prog w = .ok (236, .pointer (some a)) w := by kernel_rfl
theorem NU (A:aj) (n c:Nat) (w:World):ay 214 #[.slice A n c] w λe w'=>e=.returned (.int .i64 n)/\w=w':=by
 go_enter Tryz.func214,Tryz.ntmps214;go_wp2_with fail;go_ret;exact ⟨rfl,rfl⟩
theorem ER (A:aj) (n c:Nat) (q:List P) (i j:Nat) (w:World) (hq:Pairs w A n q) (hi:i < n) (hj:j < n) :
  ay 235 #[.slice A n c,.int .i64 i,.int .i64 j] w λe w'=>e=.returned (.bool (decide (G.ky q i < G.ky q j)))/\∃ k,w'=w.drewN k:=by
 obtain ⟨ad,x,rfl,hx,x0,x1⟩:=hq.at_ hi;obtain ⟨ad',y,e,hy,y0,y1⟩:=hq.at_ hj;injection e with e;subst e;have h1:G.ky q i=x.1:=by unfold G.ky;rw [hx];rfl
 have h2:G.ky q j=y.1:=by unfold G.ky;rw [hy];rfl
 obtain ⟨i0,i1⟩:=zJ (a:=i) (b:=n) (by omega);obtain ⟨j0,j1⟩:=zJ (a:=j) (b:=n) (by omega);rw [h1,h2];clear h1 h2 hx hy;go_enter Tryz.func235,Tryz.ntmps235;go_wp2_with fail;go_quiet (fail);go_wp2_with fail;go_ret;exact ⟨rfl,_,rfl⟩
theorem di {w:World} {g:Nat} {cs:Array Value} {t:TypeId} (h:w.heap[g]? = some (.cells cs t (0,0))) (i:Nat) (v:Value):(w.setCell ⟨g,i,none⟩ v).heap[g]? = some (.cells (cs.setIfInBounds i v) t (0,0)):=by
 have hlt:=lt_of_block h;have h':w.heap[g] = .cells cs t (0,0):=by simpa [Array.getElem?_eq_getElem hlt] using h
 show (w.heap.modify g _)[g]? = _;rw [Array.getElem?_eq_getElem (by simpa using hlt),Array.getElem_modify_self,h'];rfl
theorem ab_ (x:P):∀ (L:List P) (k:Nat),k < L.length->((L.flatMap iD).set (k * 2) (.int .i64 x.1)).set (k * 2 + 1) (.int .i64 x.2)=(L.set k x).flatMap iD:=by
 intro L;induction L with
 | nil=>intro k hk;simp at hk
 | cons y L ih =>
  intro k hk;cases k with
  | zero=>simp [iD]
  | succ k =>
   have h:=ih k (by simpa using hk);rw [show (k + 1) * 2=k * 2 + 1 + 1 by omega];simp only [List.flatMap_cons,iD,List.cons_append,List.nil_append,List.set_cons_succ] at h ⊢;rw [h]
theorem oh {w w':World} {r:Option Nat} (h:w.grownBy w' r) (g i:Nat) (x:Value) (hr:r=some g):w.grownBy (w'.setCell ⟨g,i,none⟩ x) r :=
 ⟨h.os,h.tape,h.output,by show _<=(w'.heap.modify _ _).size;rw [Array.size_modify];exact h.size,λk hk hne=>(iG w' ⟨g,i,none⟩ x k (λe=>hne (by rw [hr];exact congrArg some e))).trans (h.block k hk hne)⟩
theorem Jb (base:Nat) (v:Value) (q:List P) (i j:Nat) (w:World) (ho:w.ownsRow base 245 2 v q.length (q.flatMap iD)) (hi:i < q.length) (hj:j < q.length) :
  ay 238 #[v,.int .i64 i,.int .i64 j] w λe w'=>e=.returned (.tuple #[])/\w'.ownsRow base 245 2 v q.length ((G.swap q i j).flatMap iD)/\w.grownBy w' v.ownBlock:=by
 obtain ⟨hl,⟨rfl,h0⟩ | ⟨g,cap,cur,rfl,hbg,hg,hnc,hcm,hsz,ht⟩⟩:=ho
 ·omega
 have hx:q[i]? = some (q[i]'hi):=zF hi;have hy:q[j]? = some (q[j]'hj):=zF hj;obtain ⟨x,hx⟩:∃ x,q[i]? = some x:=⟨_,hx⟩;obtain ⟨y,hy⟩:∃ y,q[j]? = some y:=⟨_,hy⟩;have get:∀ (k:Nat) (z:P),q[k]? = some z->k < q.length->cur[k * 2]? = some (.int .i64 z.1)/\cur[k * 2 + 1]? = some (.int .i64 z.2):=by
  intro k z hz hk;have a0:=flat_get iD 2 (λ_=>rfl) q k z hz 0 (by omega);have a1:=flat_get iD 2 (λ_=>rfl) q k z hz 1 (by omega);rw [<-ht,List.getElem?_take,if_pos (by omega)] at a0 a1;simp only [Nat.add_zero] at a0;exact ⟨by simpa [iD] using a0,by simpa [iD] using a1⟩
 obtain ⟨x0,x1⟩:=get i x hx hi;obtain ⟨y0,y1⟩:=get j y hy hj;have r1:=di hg (i * 2) (.int .i64 y.1);have r2:=di r1 (i * 2 + 1) (.int .i64 y.2);have r3:=di r2 (j * 2) (.int .i64 x.1);have r4:=di r3 (j * 2 + 1) (.int .i64 x.2);have ex:∀ (cs:Array Value) (k:Nat),cs.size=cur.size->k < q.length * 2->∃ z,cs[k]? = some z:=λcs k h1 h2=>⟨_,Array.getElem?_eq_getElem (by rw [h1,hsz];have:=Nat.mul_le_mul_right 2 hnc;omega)⟩;have c0:=ah hg (i * 2) _ x0;have c1:=ah hg (i * 2 + 1) _ x1;have d0:=ah hg (j * 2) _ y0;have d1:=ah hg (j * 2 + 1) _ y1;obtain ⟨z1,k1⟩:=ex (cur.setIfInBounds (i * 2) (.int .i64 y.1)) (j * 2) (by simp) (by omega);obtain ⟨z2,k2⟩:=ex (cur.setIfInBounds (i * 2) (.int .i64 y.1)) (j * 2 + 1) (by simp) (by omega);obtain ⟨z3,k3⟩:=ex ((cur.setIfInBounds (i * 2) (.int .i64 y.1)).setIfInBounds (i * 2 + 1) (.int .i64 y.2)) (j * 2) (by simp) (by omega);obtain ⟨z4,k4⟩:=ex ((cur.setIfInBounds (i * 2) (.int .i64 y.1)).setIfInBounds (i * 2 + 1) (.int .i64 y.2)) (j * 2 + 1) (by simp) (by omega);have e1:=ah r1 (j * 2) _ k1;have e2:=ah r1 (j * 2 + 1) _ k2;have e3:=ah r2 (j * 2) _ k3;have e4:=ah r2 (j * 2 + 1) _ k4;obtain ⟨i0,i1⟩:=zJ (a:=i) (b:=q.length) (by omega);obtain ⟨j0,j1⟩:=zJ (a:=j) (b:=q.length) (by omega);have fz:∀ k,w.frozen? ⟨g,k,none⟩=false:=λk=>by simp [World.frozen?,hg]
 have hrow:((((cur.setIfInBounds (i * 2) (.int .i64 y.1)).setIfInBounds (i * 2 + 1) (.int .i64 y.2)).setIfInBounds (j * 2) (.int .i64 x.1)).setIfInBounds (j * 2 + 1) (.int .i64 x.2)).toList.take (q.length * 2)=(G.swap q i j).flatMap iD:=by
  simp only [Array.toList_setIfInBounds,List.take_set];rw [ht,ab_ y q i hi,ab_ x (q.set i y) j (by rw [List.length_set];exact hj)];unfold G.swap;rw [hx,hy];rfl
 have HR:=zC hrow;clear get ex hx hy hrow k1 k2 k3 k4 x0 x1 y0 y1 ht;go_enter Tryz.func238,Tryz.ntmps238;go_wp2_with fail;go_region
 go_wp2_with fail;refine bodyPost_end (results_none rfl _ _ _) rfl ?_;refine ⟨rfl,⟨by rw [tH iD 2 (λ_=>rfl),G.uB],.inr ⟨g,cap,_,rfl,hbg,r4,hnc,hcm,by simp [hsz],HR.out⟩⟩,?_⟩;exact jg (oh (oh (oh (oh (qy w _) g _ _ rfl) g _ _ rfl) g _ _ rfl) g _ _ rfl) ai.drew
structure gG (base qb:Nat) (w:World) (v:Value) (q:List P):Prop where
 blk:w.heap[qb]? = some (.cells #[v] 247 (0,0))
 own:w.ownsRow base 245 2 v q.length (q.flatMap iD)
 ne:v.ownBlock ≠ some qb
theorem gG.below {base qb:Nat} {w w':World} {v:Value} {q:List P} (h:gG base qb w v q) (hb:af w w'):gG base qb w' v q:=⟨au hb h.blk,own_below h.own hb,h.ne⟩
theorem gG.form {base qb:Nat} {w:World} {v:Value} {q:List P} (h:gG base qb w v q):∃ A c,v=.slice A q.length c/\Pairs w A q.length q:=by
 obtain ⟨A,c,e,hr,_⟩:=fP h.own;exact ⟨A,c,e,rfl,hr⟩
theorem gG.swapped {base qb:Nat} {w w':World} {v:Value} {q q':List P} (h:gG base qb w v q) (hq:q'.length=q.length) (ho:w'.ownsRow base 245 2 v q.length (q'.flatMap iD)) (hg:w.grownBy w' v.ownBlock):gG base qb w' v q' :=
 ⟨iV hg h.blk (λe=>h.ne e.symm),by rw [hq];exact ho,h.ne⟩
theorem YY {w1 w2 w3:World} {r:Option Nat} (h:w1.grownBy w2 r) (h2:w2.grownBy w3 r):w1.grownBy w3 r :=
 ⟨h2.os.trans h.os,h2.tape.trans h.tape,h2.output.trans h.output,aN h.size h2.size,λk hk hne=>(h2.block k (dO hk h.size) hne).trans (h.block k hk hne)⟩
theorem amq (base qb:Nat) (v:Value) (q:List P) (j:Nat) (w:World) (hQ:gG base qb w v q) (hn:q.length<=100000) (hu:G.uQ q j) :
  ay 218 #[.iface 246 (.pointer (some ⟨qb,0,none⟩)),.int .i64 j] w λe w'=>e=.returned (.tuple #[])/\(∃ q',gG base qb w' v q'/\q'.Perm q/\G.pF q' q'.length)/\w.grownBy w' v.ownBlock:=by
 go_enter Tryz.func218,Tryz.ntmps218;go_wp2_with fail;go_loopw [1] (λvj wr=>∃ (k:Nat) (r:List P),vj=.int .i64 k/\gG base qb wr v r/\r.Perm q/\G.uQ r k/\w.grownBy wr v.ownBlock) (λvj _=>(intOf vj).toNat)
 case atStart=>exact ⟨j,q,rfl,hQ,List.Perm.refl _,hu,qy _ _⟩
 case round =>
  obtain ⟨k,r,rfl,hR,hp,hk,hg⟩:=hrel;have wG:=zC hp.length_eq;obtain ⟨A,c,rfl,hP⟩:=hR.form;have hc:wr.cell? ⟨qb,0,none⟩=some (.slice A r.length c):=ah hR.blk 0 _ rfl;have hml:=Nu hc;by_cases hk0:k=0
  ·subst hk0;go_wp2_with fail;refine bodyPost_end (results_none rfl _ _ _) rfl ?_;exact ⟨rfl,⟨r,hR,hp,hk.stop (.inl rfl)⟩,hg⟩
  ·obtain ⟨p,hp'⟩:=zB ((k - 1) / 2);have hpk:p < k:=by omega
   have PL:=zC hp';have f1:((k:Int) - 1).tdiv 2=(p:Int):=by rw [Int.tdiv_eq_ediv_of_nonneg (by omega)];omega
   have f2:((p:Int) == (k:Int))=false:=by rw [beq_eq_false_iff_ne];omega
   have hkl:k < r.length:=hk.lt;have gU:r.length<=100000:=by rw [wG.out];exact hn
   clear hp';go_wp2_with fail;refine (ER A r.length c r k p _ hP hkl (by omega)).mono ?_;rintro e w1 ⟨rfl,n1,hw1⟩;have b1:af wr w1:=by rw [hw1];exact below_drewN ai _
   have hR1:=hR.below b1;have hg1:=jg hg b1;have hc1:w1.cell? ⟨qb,0,none⟩=some (.slice A r.length c):=ah hR1.blk 0 _ rfl;have hms:=I5 hc1;clear hw1 hml hc;cases hd:decide (G.ky r k < G.ky r p)
   ·have hle:G.ky r ((k - 1) / 2)<=G.ky r k:=by rw [<-PL.out];simp at hd;exact hd
    clear hd;go_wp2_with fail;refine bodyPost_end (results_none rfl _ _ _) rfl ?_;exact ⟨rfl,⟨r,hR1,hp,hk.stop (.inr hle)⟩,hg1⟩
   ·have hlt:G.ky r k < G.ky r ((k - 1) / 2):=by rw [<-PL.out];simpa using hd
    have hsw:=hk.swap (by omega) hlt;rw [<-PL.out] at hsw;clear hd;go_wp2_with fail;refine (Jb base _ r p k _ hR1.own (by omega) hkl).mono ?_;rintro e w2 ⟨rfl,ho2,hg2⟩;have hR2:=hR1.swapped (G.uB r p k) ho2 hg2;go_wp2_with fail;go_roundw
    case rel=>exact ⟨p,G.swap r p k,rfl,hR2,(G.swap_perm (by omega) hkl).trans hp,hsw,YY hg1 hg2⟩
    case measure=>simp [intOf];omega
theorem G.al2 {q:List P} {i j n k:Nat} (hi:i < n) (hj:j < n) (hn:n<=q.length) (hk:n<=k):(G.swap q i j)[k]? = q[k]?:=by
 rw [G.VK (by omega) (by omega),if_neg (by omega),if_neg (by omega)]
def V5 (base qb:Nat) (w w':World) (v:Value) (q:List P) (n:Nat) (e:Ending):Prop :=
 (∃ b,e=.returned (.bool b))/\(∃ q',gG base qb w' v q'/\q'.Perm q/\G.pF q' n/\∀ k,n<=k->q'[k]? = q[k]?)/\w.grownBy w' v.ownBlock
def qh (base qb:Nat) (w wr:World) (v:Value) (q r:List P) (k n:Nat):Prop :=
 gG base qb wr v r/\r.Perm q/\G.uH r k n/\(∀ k,n<=k->r[k]? = q[k]?)/\w.grownBy wr v.ownBlock
theorem qh.stop {base qb:Nat} {w wr:World} {v:Value} {q r:List P} {k n:Nat} {b:Bool} (h:qh base qb w wr v q r k n) (hs:∀ i,0 < i->i < n->(i - 1) / 2=k->G.ky r k<=G.ky r i):V5 base qb w wr v q n (.returned (.bool b)) :=
 ⟨⟨b,rfl⟩,⟨r,h.1,h.2.1,h.2.2.1.stop hs,h.2.2.2.1⟩,h.2.2.2.2⟩
theorem qh.below {base qb:Nat} {w wr wr':World} {v:Value} {q r:List P} {k n:Nat} (h:qh base qb w wr v q r k n) (hb:af wr wr'):qh base qb w wr' v q r k n :=
 ⟨h.1.below hb,h.2.1,h.2.2.1,h.2.2.2.1,jg h.2.2.2.2 hb⟩
theorem qh.next {base qb:Nat} {w wr:World} {v:Value} {q r:List P} {k n j:Nat} (h:qh base qb w wr v q r k n) (hj0:0 < j) (hj:j < n) (hp:(j - 1) / 2=k) (hmin:∀ i,0 < i->i < n->(i - 1) / 2=k->G.ky r j<=G.ky r i) (hlt:G.ky r j < G.ky r k) :
  ∀ wc:World,wc.ownsRow base 245 2 v r.length ((G.swap r k j).flatMap iD)->wr.grownBy wc v.ownBlock->qh base qb w wc v q (G.swap r k j) j n:=by
 intro wc ho hg;have hnl:=h.2.2.1.le;exact ⟨h.1.swapped (G.uB r k j) ho hg,(G.swap_perm (by omega) (by omega)).trans h.2.1,h.2.2.1.swap hj0 hj hp hmin hlt,λi hi=>(G.al2 (n:=n) (by omega) hj hnl hi).trans (h.2.2.2.1 i hi),YY h.2.2.2.2 hg⟩
theorem af8 (base qb:Nat) (v:Value) (q:List P) (n:Nat) (w:World) (hQ:gG base qb w v q) (hn:q.length<=100000) (hd:G.uH q 0 n) :
  ay 217 #[.iface 246 (.pointer (some ⟨qb,0,none⟩)),.int .i64 0,.int .i64 n] w λe w'=>V5 base qb w w' v q n e:=by
 go_enter Tryz.func217,Tryz.ntmps217;go_wp2_with fail;go_loopw [7] (λvi wr=>∃ (k:Nat) (r:List P),vi=.int .i64 k/\k<=100000/\qh base qb w wr v q r k n) (λvi _=>n - (intOf vi).toNat)
 case atStart=>exact ⟨0,q,rfl,by omega,hQ,List.Perm.refl _,hd,λ_ _=>rfl,qy _ _⟩
 case round =>
  obtain ⟨k,r,rfl,hk9,hr⟩:=hrel;have hlen:=hr.2.1.length_eq;have hnl:=hr.2.2.1.le;obtain ⟨A,c,hv,hP⟩:=hr.1.form;have hc:wr.cell? ⟨qb,0,none⟩=some v:=ah hr.1.blk 0 _ rfl;obtain ⟨j1,hj1⟩:∃ j1:Nat,j1=2 * k + 1:=⟨_,rfl⟩;obtain ⟨j2,hj2⟩:∃ j2:Nat,j2=2 * k + 2:=⟨_,rfl⟩;have f1:2 * (k:Int) + 1=(j1:Int):=by omega
  have f2:(j1:Int) + 1=(j2:Int):=by omega
  have n9:n<=100000:=by omega
  have f4:decide ((j1:Int) < 0)=false:=by simp
  have J1:=zC hj1;have J2:=zC hj2;have HR:=zC hr;have HL:=zC hlen;have kids:∀ i,0 < i->i < n->(i - 1) / 2=k->i=j1\/i=j2:=λi h0 h1 h2=>by omega
  have K:=zC kids;subst hv;have hml:=Nu hc;by_cases h1:n<=j1
  ·have hs:=λb=>qh.stop (b:=b) hr (λi h0 hi hp=>by rcases kids i h0 hi hp with e | e <;> omega);have HS:=zC hs;clear hj1 hj2 hr hlen kids hs;go_wp2_with fail;go_ret;exact HS.out _
  ·have hkn:k < n:=by omega
   have h1':j1 < n:=by omega
   have l1:j1 < r.length:=by omega
   have lk:k < r.length:=by omega
   by_cases h2:j2 < n
   ·have l2:j2 < r.length:=by omega
    clear hj1 hj2 hr hlen kids hc;cases hdd:decide (G.ky r j2 < G.ky r j1)
    ·have hmin:∀ i,0 < i->i < n->(i - 1) / 2=k->G.ky r j1<=G.ky r i:=λi h0 hi hp=>by
      rcases K.out i h0 hi hp with e | e
      ·subst e;exact Int.le_refl _
      ·subst e;simp at hdd;exact hdd
     have HM:=zC hmin;clear hmin;go_wp2_with fail;refine (ER A r.length c r j2 j1 _ hP l2 l1).mono ?_;rw [hdd];rintro e wa ⟨rfl,n1,hw1⟩;have b1:af wr wa:=by rw [hw1];exact below_drewN ai _
     have iI:=HR.out.below b1;clear hw1 b1 hdd hml;have hca:wa.cell? ⟨qb,0,none⟩=some (.slice A r.length c):=ah iI.1.blk 0 _ rfl;have ahF:=Nu hca;go_wp2_with fail;have RH:=iI.1.form;obtain ⟨A',c',hv',hP'⟩:=RH;injection hv' with e1 e2 e3;subst e1 e3;clear e2;refine (ER A r.length c r j1 k _ hP' l1 lk).mono ?_;rintro e wb ⟨rfl,n2,hw2⟩;have b2:af wa wb:=by rw [hw2];exact below_drewN ai _
     have iI:=iI.below b2;clear hw2 b2;have hcb:wb.cell? ⟨qb,0,none⟩=some (.slice A r.length c):=ah iI.1.blk 0 _ rfl;have hmsb:=I5 hcb;cases hde:decide (G.ky r j1 < G.ky r k)
     ·have hge:G.ky r k<=G.ky r j1:=by simp at hde;exact hde
      have hs:=λb=>qh.stop (b:=b) iI (λi h0 hi hp=>Int.le_trans hge (HM.out i h0 hi hp));have HS:=zC hs;clear hs hge hde;go_wp2_with fail;go_ret;exact HS.out _
     ·have hlt:G.ky r j1 < G.ky r k:=by simpa using hde
      have hnx:=iI.next (j:=j1) (by have:=J1.out;have:=J2.out;omega) (by omega) (by have:=J1.out;have:=J2.out;omega) HM.out hlt;have hrr:=zC iI;have hx:=zC hnx;clear hnx hlt hde;go_wp2_with fail;refine (Jb base _ r k j1 _ iI.1.own lk l1).mono ?_;rintro e wc ⟨rfl,ho2,hg2⟩;have hN:=hx.out wc ho2 hg2;clear iI hx hrr ho2 hg2;go_wp2_with fail;go_roundw
      case rel=>exact ⟨j1,G.swap r k j1,rfl,by omega,hN⟩
      case measure=>simp [intOf];have:=J1.out;have:=J2.out;omega
    ·have hmin:∀ i,0 < i->i < n->(i - 1) / 2=k->G.ky r j2<=G.ky r i:=λi h0 hi hp=>by
      rcases K.out i h0 hi hp with e | e
      ·subst e;simp at hdd;omega
      ·subst e;exact Int.le_refl _
     have HM:=zC hmin;clear hmin;go_wp2_with fail;refine (ER A r.length c r j2 j1 _ hP l2 l1).mono ?_;rw [hdd];rintro e wa ⟨rfl,n1,hw1⟩;have b1:af wr wa:=by rw [hw1];exact below_drewN ai _
     have iI:=HR.out.below b1;clear hw1 b1 hdd hml;have hca:wa.cell? ⟨qb,0,none⟩=some (.slice A r.length c):=ah iI.1.blk 0 _ rfl;have ahF:=Nu hca;go_wp2_with fail;have ag4:=iI.1.form;obtain ⟨A',c',hv',hP'⟩:=ag4;injection hv' with e1 e2 e3;subst e1 e3;clear e2;refine (ER A r.length c r j2 k _ hP' l2 lk).mono ?_;rintro e wb ⟨rfl,n2,hw2⟩;have b2:af wa wb:=by rw [hw2];exact below_drewN ai _
     have iI:=iI.below b2;clear hw2 b2;have hcb:wb.cell? ⟨qb,0,none⟩=some (.slice A r.length c):=ah iI.1.blk 0 _ rfl;have hmsb:=I5 hcb;cases hde:decide (G.ky r j2 < G.ky r k)
     ·have hge:G.ky r k<=G.ky r j2:=by simp at hde;exact hde
      have hs:=λb=>qh.stop (b:=b) iI (λi h0 hi hp=>Int.le_trans hge (HM.out i h0 hi hp));have HS:=zC hs;clear hs hge hde;go_wp2_with fail;go_ret;exact HS.out _
     ·have hlt:G.ky r j2 < G.ky r k:=by simpa using hde
      have hnx:=iI.next (j:=j2) (by have:=J1.out;have:=J2.out;omega) (by omega) (by have:=J1.out;have:=J2.out;omega) HM.out hlt;have hrr:=zC iI;have hx:=zC hnx;clear hnx hlt hde;go_wp2_with fail;refine (Jb base _ r k j2 _ iI.1.own lk l2).mono ?_;rintro e wc ⟨rfl,ho2,hg2⟩;have hN:=hx.out wc ho2 hg2;clear iI hx hrr ho2 hg2;go_wp2_with fail;go_roundw
      case rel=>exact ⟨j2,G.swap r k j2,rfl,by omega,hN⟩
      case measure=>simp [intOf];have:=J1.out;have:=J2.out;omega
   ·have hmin:∀ i,0 < i->i < n->(i - 1) / 2=k->G.ky r j1<=G.ky r i:=λi h0 hi hp=>by
     rcases K.out i h0 hi hp with e | e
     ·subst e;exact Int.le_refl _
     ·omega
    have HM:=zC hmin;have iI:=HR.out;clear hmin hj1 hj2 hr hlen kids;go_wp2_with fail;have RH:=iI.1.form;obtain ⟨A',c',hv',hP'⟩:=RH;injection hv' with e1 e2 e3;subst e1 e3;clear e2;refine (ER A r.length c r j1 k _ hP' l1 lk).mono ?_;rintro e wb ⟨rfl,n2,hw2⟩;have b2:af wr wb:=by rw [hw2];exact below_drewN ai _
    have iI:=iI.below b2;clear hw2 b2;have hcb:wb.cell? ⟨qb,0,none⟩=some (.slice A r.length c):=ah iI.1.blk 0 _ rfl;have hmsb:=I5 hcb;cases hde:decide (G.ky r j1 < G.ky r k)
    ·have hge:G.ky r k<=G.ky r j1:=by simp at hde;exact hde
     have hs:=λb=>qh.stop (b:=b) iI (λi h0 hi hp=>Int.le_trans hge (HM.out i h0 hi hp));have HS:=zC hs;clear hs hge hde;go_wp2_with fail;go_ret;exact HS.out _
    ·have hlt:G.ky r j1 < G.ky r k:=by simpa using hde
     have hnx:=iI.next (j:=j1) (by have:=J1.out;have:=J2.out;omega) (by omega) (by have:=J1.out;have:=J2.out;omega) HM.out hlt;have hrr:=zC iI;have hx:=zC hnx;clear hnx hlt hde;go_wp2_with fail;refine (Jb base _ r k j1 _ iI.1.own lk l1).mono ?_;rintro e wc ⟨rfl,ho2,hg2⟩;have hN:=hx.out wc ho2 hg2;clear iI hx hrr ho2 hg2;go_wp2_with fail;go_roundw
     case rel=>exact ⟨j1,G.swap r k j1,rfl,by omega,hN⟩
     case measure=>simp [intOf];have:=J1.out;have:=J2.out;omega
theorem Tryz.info245:(Tryz.prog.info? 245).map (λi=>(i.zero,i.size,i.bytes))=some (some (.agg #[.int .i64 0,.int .i64 0]),2,16):=by kernel_rfl
theorem ab9 (t n:Int):∀ u ∈ ([.int .i64 t,.int .i64 n]:List Value),u.oneCell'=true:=by
 intro u hu;simp at hu;rcases hu with rfl | rfl <;> rfl
theorem XJ (x:Value) (w:World):(Instr.typeAssert (.iface 245 x) 20 245 true).run Tryz.prog w=.ok (.tuple #[x,.bool true]) w:=by kernel_rfl
def Ah (qb g:Nat) (w:World):Prop:=g ≠ qb/\g < w.heap.size/\∀ v,w.heap[qb]? = some (.cells #[v] 247 (0,0))->v.ownBlock ≠ some g
def jq (qb:Nat) (w w':World):Prop:=∀ g,Ah qb g w->w'.heap[g]? = w.heap[g]?/\Ah qb g w'
theorem jq.trans {qb:Nat} {w1 w2 w3:World} (h:jq qb w1 w2) (h2:jq qb w2 w3):jq qb w1 w3:=λg hg=>by
 obtain ⟨e1,a1⟩:=h g hg;obtain ⟨e2,a2⟩:=h2 g a1;exact ⟨e2.trans e1,a2⟩
theorem jq.below {qb:Nat} {w w':World} (hq:qb < w.heap.size) (hb:af w w'):jq qb w w':=λg ⟨h1,h2,h3⟩ =>
 ⟨hb.block g h2,h1,dO h2 hb.size,λv hv=>h3 v (by rw [<-hb.block qb hq];exact hv)⟩
theorem gG.one {base qb:Nat} {w:World} {v u:Value} {q:List P} (h:gG base qb w v q) (hu:w.heap[qb]? = some (.cells #[u] 247 (0,0))):u=v:=by
 rw [h.blk] at hu;injection hu with hu;injection hu with hu;simpa using hu.symm
theorem jq.grown {base qb:Nat} {w w':World} {v:Value} {q q':List P} (h:gG base qb w v q) (h':gG base qb w' v q') (hg:w.grownBy w' v.ownBlock):jq qb w w':=λg ⟨h1,h2,h3⟩ =>
 ⟨hg.block g h2 (λe=>h3 v h.blk e.symm),h1,dO h2 hg.size,λu hu=>by rw [h'.one hu];exact h3 v h.blk⟩
theorem jq.set {base qb:Nat} {w w' w4:World} {v v':Value} {q q':List P} (h:gG base qb w v q) (h':gG base qb w' v' q') (hs:w.heap.size<=w'.heap.size) (hold:∀ g,Ah qb g w->w4.heap[g]? = w.heap[g]?) (hw:∀ g,g ≠ qb->w'.heap[g]? = w4.heap[g]?)
  (hv:∀ g,v'.ownBlock=some g->v.ownBlock=some g\/w.heap.size<=g):jq qb w w':=λg ⟨h1,h2,h3⟩ =>
 ⟨(hw g h1).trans (hold g ⟨h1,h2,h3⟩),h1,dO h2 hs,λu hu=>by
  rw [h'.one hu];intro e;rcases hv g e with hv | hv
  ·exact h3 v h.blk hv
  ·omega⟩
def Pushed (base qb:Nat) (w w':World) (q:List P):Prop:=(∃ v',gG base qb w' v' q)/\Below base w w'/\jq qb w w'
theorem Dj {base qb:Nat} {w:World} {v:Value} {q:List P} (h:gG base qb w v q):qb < w.heap.size:=(l_.1 h.blk).1
theorem akc {base qb:Nat} {v:Value} {q:List P} {t n:Int} {w w1 w4:World} {g4 cap4:Nat} (hQ:gG base qb w v q) (jT:gG base qb w1 v q) (b1:af w w1) (hsz:w1.heap.size=w.heap.size + 1) (hb:base<=qb) (hlt:qb < w.heap.size)
  (hown4:w4.ownsRow base 245 2 (.slice (some ⟨g4,0,none⟩) (q.length + 1) cap4) (q.length + 1) (q.flatMap iD ++ [.int .i64 t,.int .i64 n])) (hgrow4:(w1.alloc (.cells #[.int .i64 t,.int .i64 n] 245)).drew.grownBy w4 v.ownBlock)
  (hlies:v.ownBlock=some g4\/g4=w1.heap.size + 1) (pX:w4.heap[qb]? = some (.cells #[v] 247 (0,0))) :
  Pushed base qb w (w4.setCell ⟨qb,0,none⟩ (.slice (some ⟨g4,0,none⟩) (q.length + 1) cap4)) (q ++ [(t,n)]):=by
 have hne:some g4 ≠ some qb:=λe=>by
  injection e with e;rcases hlies with h | h
  ·exact jT.ne (by rw [h,e])
  ·omega
 have hm:base<=w.heap.size:=by omega
 have G5:gG base qb (w4.setCell ⟨qb,0,none⟩ (.slice (some ⟨g4,0,none⟩) (q.length + 1) cap4)) (.slice (some ⟨g4,0,none⟩) (q.length + 1) cap4) (q ++ [(t,n)]):=by
  refine ⟨di pX 0 _,?_,hne⟩;have h:=ownsRow_setCell_other hown4 (a:=⟨qb,0,none⟩) (show (some g4:Option Nat) ≠ some qb from hne) (.slice (some ⟨g4,0,none⟩) (q.length + 1) cap4);simpa [iD] using h
 refine ⟨⟨_,G5⟩,?_,?_⟩
 ·have h0:Below base w w1:=b1.mono hm;have h1:Below base w (w1.alloc (.cells #[.int .i64 t,.int .i64 n] 245)).drew:=(h0.alloc (by omega) _).drew;have h2:Below base w w4:=h1.grown hgrow4 (by show base<=(w1.alloc _).heap.size;rw [aF];omega) (λg h=>(jT.own.lt g h).1);exact h2.setCell hb _
 ·have hs4:=hgrow4.size;have hs1:(w1.alloc (.cells #[.int .i64 t,.int .i64 n] 245)).drew.heap.size=w1.heap.size + 1:=by show (w1.alloc _).heap.size=_;rw [aF]
  refine jq.set (w4:=w4) hQ G5 (by show w.heap.size<=(w4.heap.modify _ _).size;rw [Array.size_modify];omega) (λg ⟨h1,h2,h3⟩=>?_) (λg hg=>iG w4 ⟨qb,0,none⟩ _ g hg) (λg e=>?_)
  ·refine (hgrow4.block g (by omega) (λe=>h3 v hQ.blk e.symm)).trans ?_;exact (((dK w1).alloc (zG _) (.cells #[.int .i64 t,.int .i64 n] 245)).drew.block g (by omega)).trans (b1.block g h2)
  ·injection e with e;rcases hlies with hl | hl
   ·exact .inl (by rw [hl];exact congrArg some e)
   ·right;dsimp only at e;omega
theorem akf (base qb:Nat) (v:Value) (q:List P) (t n:Int) (w:World) (hQ:gG base qb w v q) (hn:q.length<=100000) (hb:base<=qb) :
  ay 237 #[.pointer (some ⟨qb,0,none⟩),.iface 245 (.agg #[.int .i64 t,.int .i64 n])] w λe w'=>e=.returned (.tuple #[])/\Pushed base qb w w' (q ++ [(t,n)]):=by
 have hlt:=Dj hQ;obtain ⟨w1,hw1⟩:=zB (w.alloc (.cells #[.int .i64 t,.int .i64 n] 245));have SZ:w1.heap.size=w.heap.size + 1:=by rw [hw1];exact aF _ _
 have b1:=aH hw1;have jT:=hQ.below b1;have hB1:w1.heap[w.heap.size]? = some (.cells #[.int .i64 t,.int .i64 n] 245 (0,0)):=by rw [hw1];exact aA w _
 obtain ⟨c0,c1⟩:=OQ hB1;have cq:w1.cell? ⟨qb,0,none⟩=some v:=ah jT.blk 0 _ rfl;have U5:∀ y:Int,((w1.alloc (.cells #[.int .i64 y,.int .i64 n] 245)).drew).ownsRow base 245 2 v q.length (q.flatMap iD):=λy=>own_below jT.own ((ai.alloc (zG _) _).drew);have new1:∀ j u,([.int .i64 t,.int .i64 n]:List Value)[j]? = some u->((w1.alloc (.cells #[.int .i64 t,.int .i64 n] 245)).drew).cell? ((⟨w1.heap.size,0,none⟩:Addr).add j)=some u:=World.news_of_block (aA w1 _);have le1:q.length + 1<=maxLen:=by unfold maxLen;omega
 have UH:(q.length + 1) * 16<=140737488355328:=by omega
 have UI:base<=((w1.alloc (.cells #[.int .i64 t,.int .i64 n] 245)).drew).heap.size:=by
  show base<=(w1.alloc _).heap.size;rw [aF];omega
 have HZ:((w1.alloc (.cells #[.int .i64 t,.int .i64 n] 245)).drew).heap.size=w1.heap.size + 1:=by
  show (w1.alloc _).heap.size=_;rw [aF]
 have hblk1:((w1.alloc (.cells #[.int .i64 t,.int .i64 n] 245)).drew).heap[qb]? = some (.cells #[v] 247 (0,0)):=aO jT.blk _;have cqa:(w1.alloc (.cells #[.int .i64 t,.int .i64 n] 245)).cell? ⟨qb,0,none⟩=some v:=ah (aO jT.blk _) 0 _ rfl;obtain ⟨i0,hi,hz0,hz1,hz2⟩:=info_parts Tryz.info245;have HB1:=zC b1;have JO:=zC hQ;have has:=λw'=>XJ (.agg #[.int .i64 t,.int .i64 n]) w';go_enter Tryz.func237,Tryz.ntmps237;go_wp2_with fail;rw [<-hw1];have PY:=zC SZ;clear hw1 hQ SZ;go_region_law (refine step_append_lies _ rfl (.tmp 15) (.tmp 17) 247 rfl base 245 i0 (.agg #[.int .i64 0,.int .i64 0]) 2 16 Tryz.underlying247 hi hz0 hz1 hz2 rfl (by decide) v q.length (q.flatMap iD) rfl (U5 _) ⟨w1.heap.size,0,none⟩ 1 1 [.int .i64 t,.int .i64 n] rfl rfl new1 (ab9 t n) Nat.one_pos le1 UH UI _ HZ ?_;intro g4 cap4 w4 hown4 hgrow4 hlies hlt4;have pX:=iV hgrow4 hblk1 (λe=>jT.ne e.symm);have v40:=ah pX 0 _ rfl;have vf4:w4.frozen? ⟨qb,0,none⟩=false:=by simp [World.frozen?,pX])
 all_goals go_wp2_with fail
 all_goals
  refine bodyPost_end (results_none rfl _ _ _) rfl ?_;exact ⟨rfl,akc JO.out jT HB1.out PY.out hb hlt hown4 hgrow4 hlies pX⟩
theorem akg {base qb:Nat} {A:aj} {n c:Nat} {w:World} {q:List P} (hQ:gG base qb w (.slice A (n + 1) c) q) (hn:q.length=n + 1):gG base qb (w.setCell ⟨qb,0,none⟩ (.slice A n c)) (.slice A n c) (q.take n):=by
 have ho:=hQ.own;rw [hn] at ho;obtain ⟨hl,⟨h1,h0⟩ | ⟨g,cap,cur,hv,hbg,hg,hnc,hcm,hsz,ht⟩⟩:=ho
 ·omega
 injection hv with e1 e2 e3;subst e1 e3;have hne:g ≠ qb:=λe=>hQ.ne (by subst e;rfl);have hg':(w.setCell ⟨qb,0,none⟩ (.slice (some ⟨g,0,none⟩) n c)).heap[g]? = some (.cells cur 245 (0,0)):=(iG w ⟨qb,0,none⟩ _ g hne).trans hg;refine ⟨di hQ.blk 0 _,?_,λe=>hQ.ne (by exact e)⟩;have hlen:(q.take n).length=n:=by rw [List.length_take];omega
 rw [hlen];refine ⟨by rw [tH iD 2 (λ_=>rfl),hlen],.inr ⟨g,c,cur,rfl,hbg,hg',by omega,hcm,hsz,?_⟩⟩;have e:cur.toList.take (n * 2)=(q.flatMap iD).take (n * 2):=by rw [<-ht,List.take_take];congr 1;omega
 rw [e];have key:∀ (l:List P) (k:Nat),(l.flatMap iD).take (k * 2)=(l.take k).flatMap iD:=by
  intro l;induction l with
  | nil=>intro k;simp
  | cons x l ih =>
   intro k;cases k with
   | zero=>simp
   | succ k =>
    rw [show (k + 1) * 2=k * 2 + 1 + 1 by omega];simp [iD,ih k]
 exact key q n
theorem ake (base qb:Nat) (v:Value) (q:List P) (n:Nat) (x:P) (w:World) (hQ:gG base qb w v q) (hq:q.length=n + 1) (hx:q[n]? = some x) (hn:q.length<=100000) (hb:base<=qb) :
  ay 236 #[.pointer (some ⟨qb,0,none⟩)] w λe w'=>e=.returned (.iface 245 (.agg #[.int .i64 x.1,.int .i64 x.2]))/\Pushed base qb w w' (q.take n):=by
 obtain ⟨A,c,hv,hP⟩:=hQ.form;rw [hq] at hv hP;subst hv;obtain ⟨ad,y,rfl,hy,y0,y1⟩:=hP.at_ (show n < n + 1 by omega);rw [hx] at hy;injection hy with hy;subst hy;have hlt:=Dj hQ;have c0:w.cell? ⟨qb,0,none⟩=some (.slice (some ad) (n + 1) c):=ah hQ.blk 0 _ rfl;have n9:n<=100000:=by omega
 have hcn:n<=c:=by
  have ho:=hQ.own;obtain ⟨hl,⟨h1,h0⟩ | ⟨g,cap,cur,hv,hbg,hg,hnc,hcm,hsz,ht⟩⟩:=ho
  ·injection h1 with h1;cases h1
  ·injection hv with _ _ e3;omega
 have hfz:w.frozen? ⟨qb,0,none⟩=false:=by simp [World.frozen?,hQ.blk]
 have HQ:=zC hQ;have HL:=zC hq;clear hQ hq hx;go_enter Tryz.func236,Tryz.ntmps236;go_wp2_with fail;go_ret;have hC:=(akg HQ.out HL.out).below (ai.alloc (zG _) (.cells #[.int .i64 x.1,.int .i64 x.2] 245));have hsz:(w.setCell ⟨qb,0,none⟩ (.slice (some ad) n c)).heap.size=w.heap.size:=by show (w.heap.modify _ _).size=_;rw [Array.size_modify]
 refine ⟨rfl,⟨_,hC⟩,?_,jq.set (w4:=w.alloc (.cells #[.int .i64 x.1,.int .i64 x.2] 245)) HQ.out hC (by rw [aF,hsz];omega) (λg h=>Below.heap_alloc w _ g h.2.1) (λg hg=>?_) (λg e=>.inl e)⟩
 ·exact ((ai.setCell hb _).alloc (by show base<=(w.heap.modify _ _).size;rw [Array.size_modify];omega) _)
 ·by_cases hgl:g < w.heap.size
  ·rw [Below.heap_alloc _ _ g (by rw [hsz];exact hgl),Below.heap_alloc w _ g hgl];exact iG w ⟨qb,0,none⟩ _ g hg
  ·by_cases e:g=w.heap.size
   ·subst e;rw [bU _ _ _ hsz.symm,aA]
   ·rw [Array.getElem?_eq_none (by rw [aF,hsz];omega),Array.getElem?_eq_none (by rw [aF];omega)]
def kX (base qb:Nat) (w:World) (q:List P):Prop:=∃ v,gG base qb w v q/\G.pF q q.length
theorem akd {base qb:Nat} {w w1 w':World} {q q':List P} {x:P} {v:Value} (hb1:Below base w w1) (hk:jq qb w w1) (hs:base<=w1.heap.size) (hQ:gG base qb w1 v (q ++ [x])) (hQ':gG base qb w' v q') (hp:q'.Perm (q ++ [x])) (hh:G.pF q' q'.length) (hg:w1.grownBy w' v.ownBlock) :
  (∃ q',kX base qb w' q'/\q'.Perm (x :: q))/\Below base w w'/\jq qb w w' :=
 ⟨⟨q',⟨v,hQ',hh⟩,hp.trans (List.perm_append_singleton x q)⟩,hb1.grown hg hs (λg h=>(hQ.own.lt g h).1),hk.trans (jq.grown hQ hQ' hg)⟩
def WM (base qb:Nat) (w w':World) (x:P) (q:List P):Prop:=(∃ q',kX base qb w' q'/\q'.Perm (x :: q))/\Below base w w'/\jq qb w w'
theorem ahS (base qb:Nat) (q:List P) (x:P) (w:World) (hH:kX base qb w q) (hn:q.length < 100000) (hb:base<=qb) :
  ay 216 #[.iface 246 (.pointer (some ⟨qb,0,none⟩)),.iface 245 (.agg #[.int .i64 x.1,.int .i64 x.2])] w λe w'=>e=.returned (.tuple #[])/\WM base qb w w' x q:=by
 obtain ⟨t,n⟩:=x;obtain ⟨v,hQ,hh⟩:=hH;have hlt:=Dj hQ;have hmp:=λw=>aiY ⟨qb,0,none⟩ w;have hu:=zC (G.uQ.push (t,n) hh);go_enter Tryz.func216,Tryz.ntmps216;go_wp2_with fail;refine (akf base qb v q t n _ hQ (by omega) hb).mono ?_;rintro e w1 ⟨rfl,⟨v1,jT⟩,hb1,hk1⟩;have hlt1:=Dj jT;obtain ⟨A,c,hv,hP⟩:=jT.form;have hc:w1.cell? ⟨qb,0,none⟩=some v1:=ah jT.blk 0 _ rfl;have HL:=zC (show (q ++ [(t,n)]).length=q.length + 1 by simp);rw [HL.out] at hv;subst hv;have hml:=abA hc;clear hc;go_wp2_with fail;refine (NU _ _ _ _).mono ?_;rintro e w2 ⟨rfl,rfl⟩;go_wp2_with fail;refine (amq base qb _ _ q.length _ jT (by rw [HL.out];omega) hu.out).mono ?_;rintro e w2 ⟨rfl,⟨q',hQ',hp,hh'⟩,hg⟩;go_wp2_with fail;refine bodyPost_end (results_none rfl _ _ _) rfl ?_;exact ⟨rfl,akd hb1 hk1 (by omega) jT hQ' hp hh' hg⟩
def WL (base qb:Nat) (w w':World) (q:List P) (e:Ending):Prop :=
 ∃ (x:P) (q':List P),e=.returned (.iface 245 (.agg #[.int .i64 x.1,.int .i64 x.2]))/\q.Perm (x :: q')/\(∀ p ∈ q,x.1<=p.1)/\kX base qb w' q'/\Below base w w'/\jq qb w w'
theorem ahR {base qb n:Nat} {w w1 w2 w3:World} {q r:List P} {v:Value} {x:P} (hh:G.pF q q.length) (hq:q.length=n + 1) (hQ:gG base qb w v q) (jT:gG base qb w1 v (G.swap q 0 n)) (hQ2:gG base qb w2 v r) (hg1:w.grownBy w1 v.ownBlock) (hg2:w1.grownBy w2 v.ownBlock) (hp:r.Perm (G.swap q 0 n)) (hr:G.pF r n) (hold:∀ k,n<=k->r[k]? = (G.swap q 0 n)[k]?) (hx:r[n]? = some x)
  (hP:Pushed base qb w2 w3 (r.take n)) (hs:base<=w.heap.size):WL base qb w w3 q (.returned (.iface 245 (.agg #[.int .i64 x.1,.int .i64 x.2]))):=by
 have hp2:r.Perm q:=hp.trans (G.swap_perm (by omega) (by omega));have hrl:r.length=n + 1:=by rw [hp2.length_eq,hq]
 obtain ⟨h1,h2⟩:=G.aj8 hp2 hr hrl hx;obtain ⟨⟨v',hQ'⟩,hb,hk⟩:=hP;refine ⟨x,r.take n,rfl,h1,λp hpq=>?_,⟨v',hQ',h2⟩,?_,((jq.grown hQ jT hg1).trans (jq.grown jT hQ2 hg2)).trans hk⟩
 ·have e0:=hold n (zG _);rw [hx,G.VK (by omega) (by omega),if_pos rfl] at e0;obtain ⟨i,hi⟩:=List.mem_iff_getElem?.1 hpq;have hil:i < q.length:=(zE.1 hi).1;have:=hh.first i i (zG _) hil;unfold G.ky at this;rw [<-e0,hi] at this;exact this
 ·have hs1:=hg1.size;have hs2:=hg2.size;have b2:Below base w w2:=((Below.refl base w).grown hg1 hs (λg h=>(hQ.own.lt g h).1)).grown hg2 (by omega) (λg h=>(hQ.own.lt g h).1);exact b2.trans hb
theorem ahQ (base qb:Nat) (q:List P) (w:World) (hH:kX base qb w q) (hn:q.length<=100000) (h0:0 < q.length) (hb:base<=qb) :
  ay 215 #[.iface 246 (.pointer (some ⟨qb,0,none⟩))] w λe w'=>WL base qb w w' q e:=by
 obtain ⟨v,hQ,hh⟩:=hH;obtain ⟨n,hq⟩:∃ n,q.length=n + 1:=⟨q.length - 1,by omega⟩;have hlt:=Dj hQ;have hs:base<=w.heap.size:=by omega
 obtain ⟨A,c,hv,hP⟩:=hQ.form;have hc:w.cell? ⟨qb,0,none⟩=some v:=ah hQ.blk 0 _ rfl;rw [hq] at hv;subst hv;have hml:=abA hc;have hms:=I5 hc;have hmp:=λw=>aiX ⟨qb,0,none⟩ w;have n9:n<=100000:=by omega
 have WN:=zC hq;have hd:=zC (G.uH.pop hh hq);have hl0:0 < q.length:=h0;have hln:n < q.length:=by omega
 clear hq hc;go_enter Tryz.func215,Tryz.ntmps215;go_wp2_with fail;refine (NU _ _ _ _).mono ?_;rintro e w2 ⟨rfl,rfl⟩;go_wp2_with fail;refine (Jb base _ q 0 n _ hQ.own hl0 hln).mono ?_;rintro e w1 ⟨rfl,ho,hg1⟩;have jT:=hQ.swapped (G.uB q 0 n) ho hg1;clear hml hms;go_wp2_with fail;refine (af8 base qb _ _ n _ jT (by rw [G.uB];exact hn) hd.out).mono ?_;rintro e w2 ⟨⟨bb,rfl⟩,⟨r,hQ2,hp,hr,hold⟩,hg2⟩;have hrl:r.length=n + 1:=by rw [hp.length_eq,G.uB,WN.out]
 obtain ⟨x,hx⟩:∃ x,r[n]? = some x:=⟨_,zF (by omega)⟩;have HX:=zC hx;have sN:=zC hrl;have HO:=zC hold;clear hx hrl hold;go_wp2_with fail;refine (ake base qb _ r n x _ hQ2 sN.out HX.out (by rw [sN.out];omega) hb).mono ?_;rintro e w3 ⟨rfl,hP3⟩;go_wp2_with fail;go_ret;exact ahR hh WN.out hQ jT hQ2 hg1 hg2 hp hr HO.out HX.out hP3 hs
theorem UQ (z:Value) (n:Nat):madeCells #[z] n=(List.replicate n z).toArray:=by
 apply Array.ext
 ·simp [madeCells]
 ·intro i h1 h2;simp [madeCells,Nat.mod_one]
theorem Tryz.info243:(Tryz.prog.info? 243).map (λi=>(i.zero,i.size,i.bytes))=some (some (.slice none 0 0),1,24):=by kernel_rfl
theorem CX (n:Nat) (hn:n<=1000000) (w:World):(Instr.makeSlice 48 (.int .i64 n) (.int .i64 n)).run Tryz.prog w=.ok (.slice (some ⟨w.heap.size,0,none⟩) n n) (w.alloc (.cells (intCells (List.replicate n 0)).toArray 3)):=by
 have h:=run_make_row' (P:=Tryz.prog) 48 3 (.int .i64 0) 8 Tryz.underlying48 Tryz.info3 rfl .i64 .i64 n (by omega) (by omega) w;rw [UQ] at h;rw [h,intCells,List.map_replicate]
theorem aiZ (n:Nat) (hn:n<=1000000) (w:World):(Instr.makeSlice 242 (.int .i64 n) (.int .i64 n)).run Tryz.prog w=.ok (.slice (some ⟨w.heap.size,0,none⟩) n n) (w.alloc (.cells (List.replicate n (Value.slice none 0 0)).toArray 243)):=by
 have h:=run_make_row' (P:=Tryz.prog) 242 243 (.slice none 0 0) 24 Tryz.underlying242 Tryz.info243 rfl .i64 .i64 n (by omega) (by omega) w;rw [UQ] at h;rw [h]
def eU (w:World) (b:Nat) (l:ag):Prop:=w.heap[b]? = some (.cells (intCells l).toArray 3 (0,0))
theorem eU.below {w w':World} {b B:Nat} {l:ag} (h:eU w b l) (hb:Below B w w') (hB:b < B):eU w' b l:=(hb.block b hB).trans h
theorem eU.lt {w:World} {b:Nat} {l:ag} (h:eU w b l):b < w.heap.size:=lt_of_block h
theorem eU.cell {w:World} {b:Nat} {l:ag} (h:eU w b l) {k:Nat} {x:Int} (hk:l[k]? = some x):w.cell? ⟨b,k,none⟩=some (.int .i64 x):=ah h k _ (by simp [intCells,hk])
theorem eU.free {w:World} {b:Nat} {l:ag} (h:eU w b l) (i:Nat):w.frozen? ⟨b,i,none⟩=false:=by
 unfold eU at h;simp [World.frozen?,h]
theorem eU.set {w:World} {b:Nat} {l:ag} (h:eU w b l) (k:Nat) (x:Int):eU (w.setCell ⟨b,k,none⟩ (.int .i64 x)) b (l.set k x):=by
 have h1:=di h k (.int .i64 x);unfold eU;rw [h1];simp [intCells,List.map_set]
theorem eU.ints {w:World} {b:Nat} {l:ag} (h:eU w b l):Ints w (some ⟨b,0,none⟩) l.length l:=⟨rfl,by have:=Rd.of_block h 1 l.length (by simp [intCells]);simpa using this⟩
theorem ajC {w w':World} {base:Nat} {v:Value} {n:Nat} {xs:List Value} {r:Option Nat} (h:w.ownsRow base 245 2 v n xs) (hg:w.grownBy w' r) (hne:∀ g,v.ownBlock=some g->some g ≠ r):w'.ownsRow base 245 2 v n xs:=by
 obtain ⟨hl,h1 | ⟨g,cap,cur,hv,hbg,hh,r⟩⟩:=h
 ·exact ⟨hl,.inl h1⟩
 ·exact ⟨hl,.inr ⟨g,cap,cur,hv,hbg,iV hg hh (hne g (by rw [hv];rfl)),r⟩⟩
structure Table (base nb:Nat) (w:World) (vals:List Value) (rows:List (List P)):Prop where
 blk:w.heap[nb]? = some (.cells vals.toArray 243 (0,0))
 len:vals.length=rows.length
 own:∀ (i:Nat) (v:Value) (r:List P),vals[i]? = some v->rows[i]? = some r->w.ownsRow base 245 2 v r.length (r.flatMap iD)
 ne:∀ (i:Nat) (v:Value),vals[i]? = some v->v.ownBlock ≠ some nb
 apart:∀ (i j:Nat) (v u:Value) (g:Nat),i ≠ j->vals[i]? = some v->vals[j]? = some u->v.ownBlock=some g->u.ownBlock ≠ some g
theorem Table.lt {base nb:Nat} {w:World} {vals:List Value} {rows:List (List P)} (h:Table base nb w vals rows):nb < w.heap.size:=lt_of_block h.blk
theorem Table.below {base nb:Nat} {w w':World} {vals:List Value} {rows:List (List P)} (h:Table base nb w vals rows) (hb:af w w'):Table base nb w' vals rows :=
 ⟨au hb h.blk,h.len,λi v r hv hr=>own_below (h.own i v r hv hr) hb,h.ne,h.apart⟩
theorem Table.start (base nb m:Nat) (w:World) (h:w.heap[nb]? = some (.cells (List.replicate m (Value.slice none 0 0)).toArray 243 (0,0))):Table base nb w (List.replicate m (.slice none 0 0)) (List.replicate m []):=by
 have key:∀ (i:Nat) (v:Value),(List.replicate m (Value.slice none 0 0))[i]? = some v->v=.slice none 0 0:=by
  intro i v hv;rw [List.getElem?_replicate] at hv;split at hv
  ·injection hv with hv;exact hv.symm
  ·cases hv
 refine ⟨h,by simp,λi v r hv hr=>?_,λi v hv=>?_,λi j v u g _ hv hu hg=>?_⟩
 ·rw [key i v hv];rw [List.getElem?_replicate] at hr;split at hr
  ·injection hr with hr;subst hr;exact ⟨rfl,.inl ⟨rfl,rfl⟩⟩
  ·cases hr
 ·rw [key i v hv];simp [Value.ownBlock]
 ·rw [key i v hv] at hg;simp [Value.ownBlock] at hg
theorem Table.row {base nb:Nat} {w:World} {vals:List Value} {rows:List (List P)} (h:Table base nb w vals rows) {i:Nat} (hi:i < rows.length):∃ v r,vals[i]? = some v/\rows[i]? = some r :=
 ⟨_,_,zF (by rw [h.len];exact hi),zF hi⟩
theorem Table.cell {base nb:Nat} {w:World} {vals:List Value} {rows:List (List P)} (h:Table base nb w vals rows) {i:Nat} {v:Value} (hv:vals[i]? = some v):w.cell? ⟨nb,i,none⟩=some v:=ah h.blk i _ (by simpa using hv)
theorem Table.app {base nb:Nat} {w w4:World} {vals:List Value} {rows:List (List P)} (h:Table base nb w vals rows) {i:Nat} {v:Value} {r:List P} (hv:vals[i]? = some v) (_hr:rows[i]? = some r) {g4 cap4:Nat} {t n:Int}
  (hg:w.grownBy w4 v.ownBlock) (ho:w4.ownsRow base 245 2 (.slice (some ⟨g4,0,none⟩) (r.length + 1) cap4) (r.length + 1) (r.flatMap iD ++ [.int .i64 t,.int .i64 n])) (hl:v.ownBlock=some g4\/w.heap.size<=g4) :
  Table base nb (w4.setCell ⟨nb,i,none⟩ (.slice (some ⟨g4,0,none⟩) (r.length + 1) cap4)) (vals.set i (.slice (some ⟨g4,0,none⟩) (r.length + 1) cap4)) (rows.set i (r ++ [(t,n)])):=by
 have hnb:=h.lt;have hgn:g4 ≠ nb:=λe=>by
  rcases hl with hl | hl
  ·exact h.ne i v hv (by rw [hl,e])
  ·omega
 have hil:i < vals.length:=(zE.1 hv).1;have hb4:w4.heap[nb]? = some (.cells vals.toArray 243 (0,0)):=iV hg h.blk (λe=>h.ne i v hv e.symm);have wY:∀ (j:Nat) (u:Value) (g:Nat),vals[j]? = some u->u.ownBlock=some g->g < w.heap.size:=by
  intro j u g hu hg;have hjl:j < rows.length:=by rw [<-h.len];exact (zE.1 hu).1
  exact ((h.own j u _ hu (zF hjl)).lt g hg).2
 refine ⟨?_,by simp [h.len],λj u s hu hs=>?_,λj u hu=>?_,λj k u x g hjk hu hx hg=>?_⟩
 ·have:=di hb4 i (.slice (some ⟨g4,0,none⟩) (r.length + 1) cap4);rw [this];simp
 ·by_cases e:i=j
  ·subst e;rw [List.getElem?_set_self hil] at hu;rw [List.getElem?_set_self (by rw [<-h.len];exact hil)] at hs;injection hu with hu;injection hs with hs;subst hu hs;have h1:=ownsRow_setCell_other ho (a:=⟨nb,i,none⟩) (show (some g4:Option Nat) ≠ some nb from λe=>hgn (by injection e)) (.slice (some ⟨g4,0,none⟩) (r.length + 1) cap4);simpa [iD] using h1
  ·rw [List.getElem?_set_ne e] at hu hs;have h1:=ajC (h.own j u s hu hs) hg (λg hg2 hg3=>h.apart j i u v g (Ne.symm e) hu hv hg2 hg3.symm);exact ownsRow_setCell_other h1 (a:=⟨nb,i,none⟩) (h.ne j u hu) _
 ·by_cases e:i=j
  ·subst e;rw [List.getElem?_set_self hil] at hu;injection hu with hu;subst hu;intro e2;injection e2 with e2;exact hgn e2
  ·rw [List.getElem?_set_ne e] at hu;exact h.ne j u hu
 ·by_cases e:i=j
  ·subst e;rw [List.getElem?_set_self hil] at hu;injection hu with hu;subst hu;rw [List.getElem?_set_ne hjk] at hx;injection hg with hg;subst hg;rcases hl with hl | hl
   ·exact h.apart i k v x _ hjk hv hx hl
   ·intro e2;have:=wY k x _ hx e2;dsimp only at this;omega
  ·rw [List.getElem?_set_ne e] at hu;by_cases e2:i=k
   ·subst e2;rw [List.getElem?_set_self hil] at hx;injection hx with hx;subst hx;intro e3;injection e3 with e3;subst e3;rcases hl with hl | hl
    ·exact h.apart j i u v _ hjk hu hv hg hl
    ·have:=wY j u _ hu hg;dsimp only at this;omega
   ·rw [List.getElem?_set_ne e2] at hx;exact h.apart j k u x g hjk hu hx hg
def OT (w:World) (nb lim:Nat) (rows:List (List P)):Prop :=
 nb < lim/\∀ (i:Nat) (r:List P),rows[i]? = some r->∃ A c,bT w nb i A r.length c/\Pairs w A r.length r/\∀ ad,A=some ad->ad.block < lim
theorem Table.adj {base nb:Nat} {w:World} {vals:List Value} {rows:List (List P)} (h:Table base nb w vals rows):OT w nb w.heap.size rows:=by
 refine ⟨h.lt,λi r hr=>?_⟩;have hil:i < vals.length:=by rw [h.len];exact (zE.1 hr).1
 obtain ⟨v,hv⟩:∃ v,vals[i]? = some v:=⟨_,zF hil⟩;obtain ⟨A,c,e,hR,hg⟩:=fP (h.own i v r hv hr);subst e;refine ⟨A,c,h.cell hv,⟨rfl,hR⟩,λad e=>?_⟩;subst e;exact (hg ad.block (by rfl)).2
namespace G
def nexts (k:Int) (l:List Ro) (v:Nat):List P:=(l.filter λx=>carries x k && x.fr == (v:Int)).map λx=>(x.f_,x.tt)
def table (k:Int) (l:List Ro) (m:Nat):List (List P):=(List.range m).map (nexts k l)
theorem al6 (k:Int) (m:Nat):table k [] m=List.replicate m []:=by
 apply List.ext_getElem?;intro i;simp only [table,dG,List.getElem?_replicate];by_cases h:i < m
 ·rw [List.getElem?_range h,if_pos h];rfl
 ·rw [lK (by simpa using h),if_neg h];rfl
theorem OB {k:Int} {l:List Ro} {m v:Nat} (h:v < m):(table k l m)[v]? = some (nexts k l v):=by
 simp [table,List.getElem?_range h]
theorem abP (k:Int) (l:List Ro) (x:Ro) (v:Nat):nexts k (l ++ [x]) v=nexts k l v ++ if (carries x k && x.fr == (v:Int))=true then [(x.f_,x.tt)] else []:=by
 unfold nexts;rw [List.filter_append,eG];congr 1;by_cases h:(carries x k && x.fr == (v:Int))=true
 ·simp only [List.filter_cons,List.filter_nil];rw [if_pos h,if_pos h];rfl
 ·simp only [List.filter_cons,List.filter_nil];rw [if_neg h,if_neg h];rfl
theorem al7 {k:Int} {l:List Ro} {x:Ro} {m:Nat} (h:carries x k=false):table k (l ++ [x]) m=table k l m:=by
 unfold table;apply List.map_congr_left;intro v _;rw [abP,h];simp
theorem al8 {k:Int} {l:List Ro} {x:Ro} {m a:Nat} (h:carries x k=true) (ha:x.fr=(a:Int)) (hm:a < m):table k (l ++ [x]) m=(table k l m).set a (nexts k l a ++ [(x.f_,x.tt)]):=by
 apply List.ext_getElem?;intro i;by_cases hi:i < m
 ·rw [OB hi,abP,h,ha];by_cases e:a=i
  ·subst e;rw [List.getElem?_set_self (by simp [table];exact hm)];simp
  ·rw [List.getElem?_set_ne e,OB hi];have:((a:Int) == (i:Int))=false:=by simp;omega
   simp [this]
 ·rw [lK (by simp [table];omega),lK (by simp [table];omega)]
theorem NC {k:Int} {l:List Ro} {v:Nat} {p:P}:p ∈ nexts k l v ↔ ∃ x ∈ l,carries x k=true/\x.fr=(v:Int)/\p=(x.f_,x.tt):=by
 unfold nexts;simp only [fE,List.mem_filter,dH,beq_iff_eq];constructor
 ·rintro ⟨x,⟨h1,h2,h3⟩,rfl⟩;exact ⟨x,h1,h2,h3,rfl⟩
 ·rintro ⟨x,h1,h2,h3,rfl⟩;exact ⟨x,⟨h1,h2,h3⟩,rfl⟩
theorem Nz (k:Int) (l:List Ro) (v:Nat):(nexts k l v).length<=l.length:=by
 unfold nexts;rw [bu];exact List.length_filter_le _ _
def uC (out:ag):Nat:=out.count (-1)
theorem aml {out:ag} {v:Nat} {t:Int} (hv:out[v]? = some (-1)) (ht:t ≠ -1):uC (out.set v t) + 1=uC out:=by
 unfold uC;induction out generalizing v with
 | nil=>simp at hv
 | cons x l ih =>
  cases v with
  | zero =>
   simp at hv;subst hv;have hq:(t == -1)=false:=by simpa using ht
   simp [List.count_cons,hq]
  | succ v =>
   have:=ih (by simpa using hv);rw [List.set_cons_succ,List.count_cons,List.count_cons];omega
theorem aee (m:Nat):uC (List.replicate m (-1))=m:=by simp [uC]
structure Run (m:Nat) (l:List Ro) (k s:Int) (out:ag) (q:List P):Prop where
 inv:Inv m l k s out q
 len:q.length + uC out * l.length<=1 + m * l.length
 time:∀ p ∈ q,0<=p.1/\p.1<=1000000 * ((m:Int) - uC out)
theorem Run.first {m:Nat} {l:List Ro} {k s:Int} (hs:0<=s/\s < m):Run m l k s (List.replicate m (-1)) [(0,s)]:=by
 refine ⟨Inv.first hs,by rw [aee];simp,λp hp=>?_⟩;simp at hp;subst hp;rw [aee];simp
theorem Run.drop {m:Nat} {l:List Ro} {k s:Int} {out:ag} {q q':List P} {x:P} (h:Run m l k s out q) (hp:q.Perm (x :: q')) (hd:at_ out x.2 ≠ -1):Run m l k s out q':=by
 have hl:=hp.length_eq;simp at hl;exact ⟨h.inv.drop (t:=x.1) (v:=x.2) hp hd,by have:=h.len;omega,λp hq=>h.time p (hp.mem_iff.2 (dN _ hq))⟩
theorem Run.take {m:Nat} {l:List Ro} {k s:Int} {out:ag} {q q' q2:List P} {t:Int} {v:Nat} (hf:Fine m l) (hmin:∀ x ∈ l,x.f_<=1000000) (hs:0<=s/\s < m) (h:Run m l k s out q) (hp:q.Perm ((t,(v:Int)) :: q')) (hd:out[v]? = some (-1))
  (hle:∀ p ∈ q,t<=p.1) (hq2:q2.Perm ((nexts k l v).map (λy=>(t + y.1,y.2)) ++ q')):Run m l k s (out.set v t) q2/\uC (out.set v t) + 1=uC out:=by
 have hd':at_ out (v:Int)=-1:=by unfold at_;rw [kE,hd];rfl
 have htq:=h.time (t,(v:Int)) (hp.mem_iff.2 dJ);simp only at htq;have hu:=aml (t:=t) hd (by omega);have hl:=hp.length_eq;have hl2:=hq2.length_eq;have hn:=Nz k l v;simp at hl hl2;have hv:v < out.length:=(zE.1 hd).1;refine ⟨⟨?_,?_,λp hpq=>?_⟩,hu⟩
 ·have h1:=Inv.take (v:=(v:Int)) (t:=t) (q2:=q2) hf hs h.inv hp hd' hle (λp=>by
   rw [hq2.mem_iff,dX,fE];constructor
   ·rintro (⟨y,hy,rfl⟩ | hq)
    ·obtain ⟨x,hx,hc,hxv,rfl⟩:=NC.1 hy;exact .inr ⟨x,hx,hc,hxv,rfl⟩
    ·exact .inl hq
   ·rintro (hq | ⟨x,hx,hc,hxv,rfl⟩)
    ·exact .inr hq
    ·exact .inl ⟨(x.f_,x.tt),NC.2 ⟨x,hx,hc,hxv,rfl⟩,rfl⟩)
  rwa [kE] at h1
 ·have:=h.len;rw [<-hu,Nat.add_mul] at this;omega
 ·rcases dX.1 (hq2.mem_iff.1 hpq) with h1 | h1
  ·obtain ⟨y,hy,rfl⟩:=fE.1 h1;obtain ⟨x,hx,hc,hxv,rfl⟩:=NC.1 hy;have:=hmin x hx;have:=(hf x hx).2.2;simp only;omega
  ·have:=h.time p (hp.mem_iff.2 (dN _ h1));omega
end G
theorem K.akK {n:Int}:∀ {l:List Ro},K.qO n l=0->G.Fine n l/\∀ x ∈ l,x.f_<=1000000:=by
 intro l;induction l with
 | nil=>intro _;exact ⟨λx hx=>by simp at hx,λx hx=>by simp at hx⟩
 | cons y l ih =>
  intro h;unfold K.qO at h;split at h
  ·omega
  ·split at h
   ·omega
   ·rename_i h1 h2
    obtain ⟨i1,i2⟩:=ih h;have f1:K.xe n y=true:=by simpa using h1
    have f2:K.xO y=true:=by simpa using h2
    simp [K.xe,K.xO,T.aT] at f1 f2;refine ⟨λx hx=>?_,λx hx=>?_⟩
    ·rcases dw.1 hx with rfl | hx
     ·omega
     ·exact i1 x hx
    ·rcases dw.1 hx with rfl | hx
     ·omega
     ·exact i2 x hx
theorem K.I7 {nd:Int} {l:List Ro} (h:K.aZ nd l=0):(0<=nd/\nd<=100)/\l.length<=600/\G.Fine nd l/\∀ x ∈ l,x.f_<=1000000:=by
 unfold K.aZ at h;split at h
 ·omega
 ·split at h
  ·omega
  ·rename_i h1 h2
   exact ⟨T.lS.1 (by simpa using h1),by omega,K.akK h⟩
def aeT (m:Nat) (l:List Ro) (k s:Int) (w w':World) (e:Ending):Prop :=
 ∃ (g:Nat) (out:ag),e=.returned (.slice (some ⟨g,0,none⟩) m m)/\w.heap.size<=g/\eU w' g out/\G.wu m l k s out/\af w w'
theorem YI (m i:Nat) (h:i < m):((List.replicate i (-1:Int) ++ List.replicate (m - i) 0).set i (-1))=List.replicate (i + 1) (-1) ++ List.replicate (m - (i + 1)) 0:=by
 apply List.ext_getElem?;intro j;rw [List.getElem?_set];simp only [List.getElem?_append,List.getElem?_replicate,cZ,List.length_replicate];by_cases e:i=j
 ·subst e;simp;omega
 ·rw [if_neg e];by_cases h1:j < i
  ·rw [if_pos h1,if_pos h1,if_pos (show j < i + 1 by omega),if_pos (show j < i + 1 by omega)]
  ·rw [if_neg h1,if_neg (show ¬ j < i + 1 by omega)];by_cases h2:j < m
   ·rw [if_pos (show j - i < m - i by omega),if_pos (show j - (i + 1) < m - (i + 1) by omega)]
   ·rw [if_neg (show ¬ j - i < m - i by omega),if_neg (show ¬ j - (i + 1) < m - (i + 1) by omega)]
theorem row_step {w w2 w4:World} {m a n c g4 cap4:Nat} {A:aj} {vals:List Value} {rows:List (List P)} {v:Value} {r:List P} {mi tt:Int} (hT2:Table (w.heap.size + 1) (w.heap.size + 1) w2 vals rows) (hP2:Net w2 w.heap.size m A n c) (hb:af w w2)
  (hv:vals[a]? = some v) (hr:rows[a]? = some r) (hown4:w4.ownsRow (w.heap.size + 1) 245 2 (.slice (some ⟨g4,0,none⟩) (r.length + 1) cap4) (r.length + 1) (r.flatMap iD ++ [.int .i64 mi,.int .i64 tt])) (hgrow4:(w2.alloc (.cells #[.int .i64 mi,.int .i64 tt] 245)).drew.grownBy w4 v.ownBlock)
  (hlies:v.ownBlock=some g4\/g4=w2.heap.size + 1) :
  Net (w4.setCell ⟨w.heap.size + 1,a,none⟩ (.slice (some ⟨g4,0,none⟩) (r.length + 1) cap4)) w.heap.size m A n c /\
  Table (w.heap.size + 1) (w.heap.size + 1) (w4.setCell ⟨w.heap.size + 1,a,none⟩ (.slice (some ⟨g4,0,none⟩) (r.length + 1) cap4)) (vals.set a (.slice (some ⟨g4,0,none⟩) (r.length + 1) cap4)) (rows.set a (r ++ [(mi,tt)])) /\
  af w (w4.setCell ⟨w.heap.size + 1,a,none⟩ (.slice (some ⟨g4,0,none⟩) (r.length + 1) cap4)):=by
 have HZ:((w2.alloc (.cells #[.int .i64 mi,.int .i64 tt] 245)).drew).heap.size=w2.heap.size + 1:=by
  show (w2.alloc _).heap.size=_;rw [aF]
 have hs:=hb.size;have ba:af w2 (w2.alloc (.cells #[.int .i64 mi,.int .i64 tt] 245)).drew:=(ai.alloc (zG _) _).drew;have hlt:∀ g,v.ownBlock=some g->w.heap.size + 1<=g:=λg h=>((hT2.own a v r hv hr).lt g h).1;refine ⟨?_,(hT2.below ba).app hv hr hgrow4 hown4 (hlies.imp id (λe=>by omega)),?_⟩
 ·have h1:Net w4 w.heap.size m A n c:=iV hgrow4 (hP2.below ba) (λe=>by have:=hlt _ e.symm;omega);exact (iG w4 ⟨w.heap.size + 1,a,none⟩ _ w.heap.size (show w.heap.size ≠ w.heap.size + 1 by omega)).trans h1
 ·have h1:af w (w2.alloc (.cells #[.int .i64 mi,.int .i64 tt] 245)).drew:=bel hb ba;have h2:af w w4:=h1.grown hgrow4 (by omega) (λg h=>by have:=hlt g h;omega);exact h2.setCell (by show w.heap.size<=w.heap.size + 1;omega) _
theorem kX.below {base qb:Nat} {w w':World} {q:List P} (h:kX base qb w q) (hb:af w w'):kX base qb w' q:=by
 obtain ⟨v,hQ,hh⟩:=h;exact ⟨v,hQ.below hb,hh⟩
theorem kX.lt {base qb:Nat} {w:World} {q:List P} (h:kX base qb w q):qb < w.heap.size:=by
 obtain ⟨v,hQ,hh⟩:=h;exact Dj hQ
theorem kX.away {base qb:Nat} {w:World} {q:List P} (h:kX base qb w q) (o:Obj):Ah qb w.heap.size (w.alloc o):=by
 obtain ⟨v,hQ,hh⟩:=h;have:=Dj hQ;have hQ':=hQ.below (ai.alloc (zG _) o);refine ⟨by omega,by rw [aF];omega,λu hu=>?_⟩;rw [hQ'.one hu];intro e;have:=(hQ.own.lt _ e).2;omega
theorem kX.other {base qb g i:Nat} {w:World} {q:List P} (h:kX base qb w q) (x:Value) (h1:g ≠ qb) (h2:g < base):kX base qb (w.setCell ⟨g,i,none⟩ x) q:=by
 obtain ⟨v,hQ,hh⟩:=h;refine ⟨v,⟨(iG w ⟨g,i,none⟩ x qb (show qb ≠ g from h1.symm)).trans hQ.blk,?_,hQ.ne⟩,hh⟩;exact ownsRow_setCell_other hQ.own (a:=⟨g,i,none⟩) (λe=>by have:=(hQ.own.lt _ e).1;dsimp only at this;omega) x
theorem kX.first (wB:World) (s:Nat):kX wB.heap.size (wB.heap.size + 1) ((wB.alloc (.cells #[.int .i64 0,.int .i64 s] 245)).alloc (.cells #[.slice (some ⟨wB.heap.size,0,none⟩) 1 1] 247)) [(0,(s:Int))]:=by
 have SZ:=aF wB (.cells #[.int .i64 0,.int .i64 s] 245);refine ⟨.slice (some ⟨wB.heap.size,0,none⟩) 1 1,⟨bU _ _ _ SZ.symm,⟨rfl,.inr ⟨wB.heap.size,1,_,rfl,zG _,aO (aA wB _) _,zG _,by decide,rfl,rfl⟩⟩,λe=>by injection e with e;dsimp only at e;omega⟩,λk h0 hk=>by simp at hk;omega⟩
theorem OT.get {w:World} {nb lim:Nat} {rows:List (List P)} (h:OT w nb lim rows) {i:Nat} {r:List P} (hr:rows[i]? = some r):∃ A c,∀ w',Below lim w w'->w'.cell? ⟨nb,i,none⟩=some (.slice A r.length c)/\Pairs w' A r.length r:=by
 obtain ⟨A,c,hc,hP,hA⟩:=h.2 i r hr;refine ⟨A,c,λw' hb=>⟨(lg (hb.block nb h.1)).trans hc,hP.1,hP.2.1,λh0=>?_⟩⟩;obtain ⟨ad,e,hcell⟩:=hP.2.2 h0;refine ⟨ad,e,λj u hu=>?_⟩;exact (lg (by rw [add_block];exact hb.block _ (hA ad e))).trans (hcell j u hu)
theorem ae_ {qb g i a:Nat} {w:World} (h:Ah qb a w) (h1:g ≠ qb) (x:Value):Ah qb a (w.setCell ⟨g,i,none⟩ x) :=
 ⟨h.1,by show a < (w.heap.modify _ _).size;rw [Array.size_modify];exact h.2.1,λv hv=>h.2.2 v (by rw [<-iG w ⟨g,i,none⟩ x qb (show qb ≠ g from h1.symm)];exact hv)⟩
def yK (m:Nat) (l:List Ro) (k s:Int) (wA:World) (base:Nat) (gk:Nat) (wr:World) (out:ag) (q:List P):Prop :=
 gk=G.uC out * (l.length + 1) + q.length/\G.Run m l k s out q/\eU wr wA.heap.size out/\kX base (base + 1) wr q/\af wA wr
def wP (wA:World) (base sb:Nat) (x:P) (r q':List P) (out:ag) (j:Nat) (wr:World) (q2:List P):Prop :=
 kX base (base + 1) wr q2/\q2.Perm ((r.take j).map (λy=>(x.1 + y.1,y.2)) ++ q')/\eU wr wA.heap.size out/\af wA wr/\wr.heap[sb]? = some (.cells #[.int .i64 x.1,.int .i64 x.2] 245 (0,0))/\Ah (base + 1) sb wr
theorem wP.alloc {wA wr:World} {base sb:Nat} {x:P} {r q':List P} {out:ag} {j:Nat} {q2:List P} (h:wP wA base sb x r q' out j wr q2) (o:Obj):wP wA base sb x r q' out j (wr.alloc o) q2:=by
 obtain ⟨h1,h2,h3,h4,h5,h6⟩:=h;have hb:af wr (wr.alloc o):=ai.alloc (zG _) _;exact ⟨h1.below hb,h2,h3.below hb h3.lt,bel h4 hb,au hb h5,((jq.below h1.lt hb) sb h6).2⟩
theorem wP.push {wA wr w':World} {base sb:Nat} {x y:P} {r q':List P} {out:ag} {j:Nat} {q2:List P} (h:wP wA base sb x r q' out j wr q2) (hy:r[j]? = some y) (hA:wA.heap.size < base) (hp:WM base (base + 1) wr w' (x.1 + y.1,y.2) q2):∃ q3,wP wA base sb x r q' out (j + 1) w' q3:=by
 obtain ⟨h1,h2,h3,h4,h5,h6⟩:=h;obtain ⟨⟨q3,hq3,hperm⟩,hb,hk⟩:=hp;refine ⟨q3,hq3,?_,h3.below hb hA,h4.trans (hb.mono (by omega)),((hk sb h6).1).trans h5,(hk sb h6).2⟩;rw [take_snoc hy,eG,jb];refine hperm.trans ?_;refine (List.Perm.cons _ h2).trans ?_;exact List.perm_middle.symm
theorem yK.next {m n:Nat} {l:List Ro} {k s:Int} {wA:World} {base gk sb:Nat} {wr wi:World} {out:ag} {q q' q2:List P} {t:Int} {v:Nat} (hs:0<=s/\s < m) (hf:G.Fine m l) (hmin:∀ x ∈ l,x.f_<=1000000) (h:yK m l k s wA base gk wr out q) (hp:q.Perm ((t,(v:Int)) :: q')) (hle:∀ p ∈ q,t<=p.1) (hd:out[v]? = some (-1))
  (hn:n=(G.nexts k l v).length) (hT:wP wA base sb (t,(v:Int)) (G.nexts k l v) q' (out.set v t) n wi q2):∃ g2,g2 < gk/\yK m l k s wA base g2 wi (out.set v t) q2:=by
 obtain ⟨h1,h2,h3,h4,h5⟩:=h;obtain ⟨t1,t2,t3,t4,t5,t6⟩:=hT;rw [fD (by omega)] at t2;obtain ⟨r1,r2⟩:=h2.take hf hmin hs hp hd hle t2;have l1:=hp.length_eq;have l2:=t2.length_eq;have l3:=G.Nz k l v;simp at l1 l2;refine ⟨_,?_,rfl,r1,t3,t1,t4⟩;rw [h1,<-r2,Nat.add_mul];omega
theorem yK.drop {m:Nat} {l:List Ro} {k s:Int} {wA:World} {base gk:Nat} {wr wi:World} {out:ag} {q q':List P} {x:P} (h:yK m l k s wA base gk wr out q) (hp:q.Perm (x :: q')) (hd:G.at_ out x.2 ≠ -1) (hI:eU wi wA.heap.size out) (hH:kX base (base + 1) wi q') (hb:af wA wi) :
  ∃ g2,g2 < gk/\yK m l k s wA base g2 wi out q':=by
 obtain ⟨h1,h2,h3,h4,h5⟩:=h;have l1:=hp.length_eq;simp at l1;exact ⟨_,by rw [h1];omega,rfl,h2.drop hp hd,hI,hH,hb⟩
theorem adI (m:Nat) (A:aj) (n c:Nat) (l:List Ro) (s:Nat) (k:Int) (w:World) (hl:gq w A n l) (hn:n<=600) (hm:m<=100) (hf:G.Fine m l) (hmin:∀ x ∈ l,x.f_<=1000000) (hs:s < m) :
  ay 209 #[.agg #[.int .i64 m,.slice A n c],.int .i64 s,.int .i64 k,.bool false] w λe w'=>aeT m l k s w w' e:=by
 have b0:=(dK w).alloc (zG _) (.cells #[.int .i64 m,.slice A n c] 24);have anr:=λw'=>aiZ m (by omega) w';have p_:=λw'=>CX m (by omega) w';have hP0:=Net.new w m A n c;have SZ:=aF w (.cells #[.int .i64 m,.slice A n c] 24);have HF:=zC hf;have Pq:=zC hmin;clear hf hmin;go_enter Tryz.func209,Tryz.ntmps209;go_wp2_with fail;go_loopw [27] (λvi wr=>∃ j:Nat,vi=.int .i64 j/\j<=n/\Net wr w.heap.size m A n c/\(∃ vals,Table (w.heap.size + 1) (w.heap.size + 1) wr vals (G.table k (l.take j) m))/\af w wr) (λvi _=>n - (intOf vi).toNat)
 case atStart =>
  refine ⟨0,rfl,by omega,hP0.below (ai.alloc (zG _) _),⟨List.replicate m (.slice none 0 0),?_⟩,b0.alloc b0.size _⟩;rw [List.take_zero,G.al6];exact Table.start _ _ _ _ (bU _ _ _ SZ.symm)
 case round =>
  obtain ⟨j,rfl,hj,hP,⟨vals,hT⟩,hb⟩:=hrel;have p0:=hP.c0;have p1:=hP.c1;by_cases hlt:j < n
  ·obtain ⟨ad,x,rfl,hx,c0,c1,c2,c3⟩:=gq.at_ (hl.below hb) hlt;have hxm:=zD hx;obtain ⟨⟨fa0,fa1⟩,⟨QM,QN⟩,KT⟩:=HF.out x hxm;have KU:=Pq.out x hxm;have nY:=zC (take_snoc hx);obtain ⟨a,ha⟩:∃ a:Nat,x.fr=(a:Int):=⟨x.fr.toNat,by omega⟩;have ham:a < m:=by omega
   obtain ⟨v,r,hv,hr⟩:=hT.row (i:=a) (by simp [G.table];exact ham);have hcell:=hT.cell hv;have HX:=zC ha;obtain ⟨a0,a1⟩:=zJ (a:=a) (b:=m) (by omega);obtain ⟨fr,tt,mi,li⟩:=x;simp only at HX c0 c1 c2 c3 fa0 fa1 QM QN KT KU ha nY;subst ha;obtain ⟨wx,hwx⟩:=zB (wr.alloc (.cells #[.int .i64 a,.int .i64 tt,.int .i64 mi,.int .i64 li] 134));have xy:wx.heap[wr.heap.size]? = some (.cells #[.int .i64 a,.int .i64 tt,.int .i64 mi,.int .i64 li] 134 (0,0)):=by rw [hwx];exact aA _ _
   have bx:=aH hwx;obtain ⟨x0,x1,x2,x3⟩:=gX xy;clear hx hxm;go_wp2_with fail;rw [<-hwx];clear hwx;go_quiet (fail);go_wp2_with fail;refine (afI _ _ _ _ _ _).mono ?_;rintro e w2 ⟨rfl,hb2'⟩;have hb2:af wr w2:=bel (bel bx (below_drewN ai _)) hb2';have hX2:=au (bel (below_drewN (dK wx) _) hb2') xy;have hP2:=hP.below hb2;have hT2:=hT.below hb2;have hbw2:=bel hb hb2;have hcell2:=hT2.cell hv;have hs2:wr.heap.size < w2.heap.size:=lt_of_block hX2;clear hb2' xy x0 x1 x2 x3 bx p0 p1 c0 c1 c2 c3 hcell hT hP hb;obtain ⟨x0,x1,x2,x3⟩:=gX hX2;cases hc:G.carries ⟨a,tt,mi,li⟩ k
   ·have HC:=zC (G.al7 (l:=l.take j) (m:=m) hc);go_wp2_with fail;go_roundw
    case rel=>exact ⟨j + 1,by go_num,by omega,hP2,⟨vals,by rw [nY.out,HC.out];exact hT2⟩,hbw2⟩
    case measure=>simp [intOf];omega
   ·have HC:=zC (G.al8 (l:=l.take j) (m:=m) hc rfl ham);have hgr:r=G.nexts k (l.take j) a:=by
     rw [G.OB ham] at hr;injection hr with hr;exact hr.symm
    have hrl:r.length<=600:=by
     have:=G.Nz k (l.take j) a;rw [List.length_take] at this;have:=hl.1;rw [hgr];omega
    have JG:=zC hgr;have HV:=zC hv;have HR:=zC hr;have HOW:=hT2.own a v r hv hr;have iq:=hT2.ne a v hv;have U5:∀ y z:Int,((w2.alloc (.cells #[.int .i64 y,.int .i64 z] 245)).drew).ownsRow (w.heap.size + 1) 245 2 v r.length (r.flatMap iD):=λy z=>own_below HOW ((ai.alloc (zG _) _).drew);have new1:∀ j u,([.int .i64 mi,.int .i64 tt]:List Value)[j]? = some u->((w2.alloc (.cells #[.int .i64 mi,.int .i64 tt] 245)).drew).cell? ((⟨w2.heap.size,0,none⟩:Addr).add j)=some u:=World.news_of_block (aA w2 _);have le1:r.length + 1<=maxLen:=by unfold maxLen;omega
    have UH:(r.length + 1) * 16<=140737488355328:=by omega
    have HZ:((w2.alloc (.cells #[.int .i64 mi,.int .i64 tt] 245)).drew).heap.size=w2.heap.size + 1:=by
     show (w2.alloc _).heap.size=_;rw [aF]
    have hws:=hbw2.size;have UI:w.heap.size + 1<=((w2.alloc (.cells #[.int .i64 mi,.int .i64 tt] 245)).drew).heap.size:=by rw [HZ];omega
    have hblk1:((w2.alloc (.cells #[.int .i64 mi,.int .i64 tt] 245)).drew).heap[w.heap.size + 1]? = some (.cells vals.toArray 243 (0,0)):=aO hT2.blk _;have cqa:(w2.alloc (.cells #[.int .i64 mi,.int .i64 tt] 245)).cell? ⟨w.heap.size + 1,a,none⟩=some v:=ah (aO hT2.blk _) a _ (by simpa using hv);obtain ⟨i0,hi,hz0,hz1,hz2⟩:=info_parts Tryz.info245;clear hgr hv hr hc hws;go_wp2_with fail;go_region_law (refine step_append_lies _ rfl (.tmp 46) (.tmp 51) 243 rfl (w.heap.size + 1) 245 i0 (.agg #[.int .i64 0,.int .i64 0]) 2 16 Tryz.underlying243 hi hz0 hz1 hz2 rfl (by decide) v r.length (r.flatMap iD) rfl (U5 _ _) ⟨w2.heap.size,0,none⟩ 1 1 [.int .i64 mi,.int .i64 tt] rfl rfl new1 (ab9 mi tt) Nat.one_pos le1 UH UI _ HZ ?_;intro g4 cap4 w4 hown4 hgrow4 hlies hlt4;have pX:=iV hgrow4 hblk1 (λe=>iq e.symm);have v40:=ah pX a _ (by simpa using HV.out);have vf4:w4.frozen? ⟨w.heap.size + 1,a,none⟩=false:=by simp [World.frozen?,pX])
    all_goals go_wp2_with fail
    all_goals
     go_roundw
     case rel =>
      have h9:=row_step hT2 hP2 hbw2 HV.out HR.out hown4 hgrow4 hlies;exact ⟨j + 1,by go_num,by omega,h9.1,⟨_,by rw [nY.out,HC.out,<-JG.out];exact h9.2.1⟩,h9.2.2⟩
     case measure=>simp [intOf];omega
  ·have hjn:j=n:=by omega
   have htk:l.take j=l:=fD (by rw [<-hl.1];omega);rw [htk] at hT;have hA:=hT.adj;have hbw:=hb;obtain ⟨wA,hwA⟩:=zB wr;rw [<-hwA] at hA hP hb p0 p1 hbw ⊢;have SZA:=aF wA (.cells (intCells (List.replicate m 0)).toArray 3);have hI0:eU (wA.alloc (.cells (intCells (List.replicate m 0)).toArray 3)) wA.heap.size (List.replicate m 0):=aA wA _;clear hT htk hwA b0 hP0 SZ hjn hj;go_wp2_with fail;go_loopw [60] (λvi w3=>∃ i:Nat,vi=.int .i64 i/\i<=m/\eU w3 wA.heap.size (List.replicate i (-1) ++ List.replicate (m - i) 0)/\af wA w3) (λvi _=>m - (intOf vi).toNat)
   case atStart=>exact ⟨0,rfl,by omega,by simpa using hI0,ai.alloc (zG _) _⟩
   case round =>
    obtain ⟨i,rfl,hi,hI,hb3⟩:=hrel;by_cases him:i < m
    ·obtain ⟨i0,i1⟩:=zJ (a:=i) (b:=m) (by omega);have hz:(List.replicate i (-1:Int) ++ List.replicate (m - i) 0)[i]? = some 0:=by
      rw [List.getElem?_append_right (by simp),List.length_replicate,Nat.sub_self,List.getElem?_replicate,if_pos (show 0 < m - i by omega)]
     have hc0:=hI.cell hz;have hf0:=hI.free i;have jI:=zC (hI.set i (-1));clear hz;go_wp2_with fail;go_roundw
     case rel=>exact ⟨i + 1,by go_num,by omega,by rw [<-YI m i him];exact jI.out,hb3.setCell (zG _) _⟩
     case measure=>simp [intOf];omega
    ·obtain rfl:m=i:=by omega
     rw [Nat.sub_self,List.replicate_zero,List.append_nil] at hI;obtain ⟨wB,hwB⟩:=zB wr;rw [<-hwB] at hI hb3 ⊢;have hAB:wA.heap.size < wB.heap.size:=hI.lt;have hH0:=kX.first wB s;have hb4:af wB ((wB.alloc (.cells #[.int .i64 0,.int .i64 s] 245)).alloc (.cells #[.slice (some ⟨wB.heap.size,0,none⟩) 1 1] 247)):=(ai.alloc (zG _) _).alloc (by rw [aF];omega) _;have qA:=hI.below hb4 hI.lt;have hb5:=bel hb3 hb4;have HB:=zC hbw;have hml:m * l.length<=60000:=Nat.mul_le_mul hm (show l.length<=600 by rw [<-hl.1];exact hn);have Wy:=zC hml;clear hwB hb hI hb3 hb4 hbw hml p0 p1 hP hI0 SZA;go_wp2_with fail;go_loopg [18] (G.uC (List.replicate m (-1)) * (l.length + 1) + 1) (λgk _ wr=>∃ out q,yK m l k s wA wB.heap.size gk wr out q)
     case atStart=>exact ⟨_,_,rfl,G.Run.first ⟨by omega,by omega⟩,qA,hH0,hb5⟩
     case round =>
      clear qA hH0 hb5;obtain ⟨out,q,hS⟩:=hrel;have HS:=zC hS;obtain ⟨-,RP,hI,hH,hb⟩:=hS;have EE:q.length<=60001:=by have:=RP.len;have:=Wy.out;omega
      have HR:=zC RP;obtain ⟨v,hQ,hh⟩:=id hH;obtain ⟨A9,c9,hv,hP9⟩:=hQ.form;have cq:wr.cell? ⟨wB.heap.size + 1,0,none⟩=some v:=ah hQ.blk 0 _ rfl;subst hv;clear hQ hh hP9 RP;by_cases h0:0 < q.length
      ·have h0':(0:Int) < (q.length:Int):=by omega
       go_wp2_with fail;refine (NU _ _ _ _).mono ?_;rintro e w9 ⟨rfl,rfl⟩;go_wp2_with fail;refine (ahQ wB.heap.size (wB.heap.size + 1) q _ hH (by omega) h0 (by omega)).mono ?_;rintro e w4 ⟨x,q',rfl,hperm,hle,Lj,hbq,hkq⟩;have hxm:=hperm.mem_iff.2 dJ;obtain ⟨⟨hx0,hx1⟩,hx2⟩:=HR.out.inv.NV x hxm;obtain ⟨ht0,ht1⟩:=HR.out.time x hxm;have hol:=HR.out.inv.len;obtain ⟨t,vv⟩:=x;obtain ⟨v,rfl⟩:∃ v:Nat,vv=(v:Int):=⟨vv.toNat,by simp only at hx0;omega⟩;simp only at hx0 hx1 ht0 ht1 hx2;have hvm:v < m:=by omega
       have ht2:t<=100000000:=by omega
       obtain ⟨y,hy⟩:∃ y,out[v]? = some y:=⟨_,zF (by omega)⟩;have qA:=hI.below hbq hAB;have hb4:af wA w4:=hb.trans (hbq.mono (by omega));have PO:=zC hperm;have HLe:=zC hle;have HY:=zC hy;have hta:=λw'=>XJ (.agg #[.int .i64 t,.int .i64 v]) w';have hb5:=hb4.alloc hb4.size (.cells #[.int .i64 t,.int .i64 v] 245);have ba:af w4 (w4.alloc (.cells #[.int .i64 t,.int .i64 v] 245)):=ai.alloc (zG _) _;have g_:=qA.below ba qA.lt;have hH5:=Lj.below ba;have QV:=Lj.away (.cells #[.int .i64 t,.int .i64 v] 245);have RS:=aA w4 (.cells #[.int .i64 t,.int .i64 v] 245);have cya:=g_.cell hy;obtain ⟨w5,hw5⟩:=zB (w4.alloc (.cells #[.int .i64 t,.int .i64 v] 245));rw [<-hw5] at hb5 g_ hH5 QV RS;have cy:=qA.cell hy;have cy5:=g_.cell hy;obtain ⟨v0,v1⟩:=zJ (a:=v) (b:=m) (by omega);clear hx2 ht1 hxm hperm hle hy hol hb hI hH cq hb4 hkq hbq EE h0' ba;cases CO:(y == -1)
       ·have hyn:(y != -1)=true:=by simp [bne,CO]
        have hd:G.at_ out (v:Int) ≠ -1:=by
         unfold G.at_;rw [kE,HY.out];simpa using CO
        have hx:=zC (HS.out.drop PO.out hd g_ hH5 hb5);clear hd CO;go_wp2_with fail;rw [<-hw5];obtain ⟨g2,hg2,hS2⟩:=hx.out;go_roundg g2
        case rel=>exact ⟨_,_,hS2⟩
        case measure=>exact hg2
       ·have hyn:(y != -1)=false:=by simp [bne,CO]
        have hy1:y=-1:=by simpa using CO
        have hsz5:=aF w4 (.cells #[.int .i64 t,.int .i64 v] 245);subst hy1;subst hw5;have hfr:=g_.free v;have dS:=g_.set v t;have hb6:af wA ((w4.alloc (.cells #[.int .i64 t,.int .i64 v] 245)).setCell ⟨wA.heap.size,v,none⟩ (.int .i64 t)):=hb5.setCell (zG _) _;have hH6:=hH5.other (i:=v) (.int .i64 t) (show wA.heap.size ≠ wB.heap.size + 1 by omega) hAB;have hqs:=Lj.lt;have RU:=(iG (w4.alloc (.cells #[.int .i64 t,.int .i64 v] 245)) ⟨wA.heap.size,v,none⟩ (.int .i64 t) w4.heap.size (show w4.heap.size ≠ wA.heap.size by omega)).trans RS;have Y6:=ae_ (i:=v) QV (show wA.heap.size ≠ wB.heap.size + 1 by omega) (.int .i64 t);obtain ⟨A7,c7,hget⟩:=hA.get (G.OB (k:=k) (l:=l) hvm);have hc7:=(hget _ hb6).1;have hT0:wP wA wB.heap.size w4.heap.size (t,(v:Int)) (G.nexts k l v) q' (out.set v t) 0 ((w4.alloc (.cells #[.int .i64 t,.int .i64 v] 245)).setCell ⟨wA.heap.size,v,none⟩ (.int .i64 t)) q':=⟨hH6,by simp,dS,hb6,RU,Y6⟩;have JF:=zC hget;obtain ⟨d,hd⟩:=zB ((G.nexts k l v).length);have hnl:=G.Nz k l v;have hll:=hl.1;rw [<-hd] at hc7 hnl;have HD:=zC hd;have HT0:=zC hT0;have hd9:d<=600:=by omega
        have qi:=zC hll;obtain ⟨sb0,sb1⟩:=OQ RU;clear hget hd hll hnl hT0 dS hb6 hH6 hqs RU Y6 hsz5;go_wp2_with fail;obtain ⟨w6,hw6⟩:=zB ((w4.alloc (.cells #[.int .i64 t,.int .i64 v] 245)).setCell ⟨wA.heap.size,v,none⟩ (.int .i64 t));rw [<-hw6] at HT0 ⊢;clear hw6 g_ hH5 QV RS cya cy5 cy hc7 sb0 sb1 hb5 hfr qA Lj;go_loopw [105] (λvi wr4=>∃ (i:Nat) (q2:List P),vi=.int .i64 i/\i<=d/\wP wA wB.heap.size w4.heap.size (t,(v:Int)) (G.nexts k l v) q' (out.set v t) i wr4 q2) (λvi _=>d - (intOf vi).toNat)
        case atStart=>exact ⟨0,q',rfl,by omega,HT0.out⟩
        case round =>
         obtain ⟨i,q2,rfl,anl,hTR⟩:=hrel;have WV:=zC hTR;obtain ⟨hH7,hq7,oz,hb7,RX,Y7⟩:=hTR;by_cases hlt4:i < d
         ·have RG:=(JF.out _ hb7).2;have hlq:q2.length<=70000:=by
           have e1:=hq7.length_eq;have e2:=PO.out.length_eq;have e3:=HR.out.len;have e4:=Wy.out;simp at e1 e2;omega
          rw [<-HD.out] at RG;obtain ⟨ad7,y,rfl,Us,y0,y1⟩:=Pairs.at_ RG hlt4;obtain ⟨z,hz,hzc,Nh,hzy⟩:=G.NC.1 (zD Us);have hm1:=Pq.out z hz;have hm0:=(HF.out z hz).2.2;obtain ⟨yt,yn⟩:=y;injection hzy with e1 e2;subst e1 e2;simp only at y0 y1;have HY7:=zC Us;have hTa:=WV.out.alloc (.cells #[.int .i64 z.f_,.int .i64 z.tt] 245);have WX:=zC hTa;obtain ⟨sa0,sb1⟩:=OQ RX;have hsa:=ah hTa.2.2.2.2.1 0 _ rfl;have aaQ:wB.heap.size + 1 < wr.heap.size:=hH7.lt;clear RG Us hTa hz hzc Nh hq7 oz RX Y7 hH7;go_wp2_with fail;refine (ahS wB.heap.size (wB.heap.size + 1) q2 (t + z.f_,z.tt) _ WX.out.1 (by omega) (by omega)).mono ?_;rintro e w8 ⟨rfl,hpu⟩;have LW:=zC (WX.out.push HY7.out hAB hpu);clear hpu;go_wp2_with fail;obtain ⟨q3,ng⟩:=LW.out;go_roundw
          case rel=>exact ⟨i + 1,q3,by go_num,by omega,ng⟩
          case measure=>simp [intOf];omega
         ·have hie:i=(G.nexts k l v).length:=by rw [<-HD.out];omega
          have HIE:=zC hie;obtain ⟨g2,hg2,hS2⟩:=yK.next (n:=i) ⟨by omega,by omega⟩ HF.out Pq.out HS.out PO.out HLe.out HY.out hie WV.out;have HS2:=zC hS2;clear hie hH7 hq7 oz hb7 RX Y7 hS2;go_wp2_with fail;go_roundg g2
          case rel=>exact ⟨_,_,HS2.out⟩
          case measure=>exact hg2
      ·have hq0:q=[]:=List.length_eq_zero_iff.1 (by omega);have hD:=HR.out.inv;rw [hq0] at hD;have hD2:=zC (hD.af7 HF.out ⟨by omega,by omega⟩);have hB2:=zC (bel HB.out hb);clear hq0 hD HS HR;go_wp2_with fail;refine (NU _ _ _ _).mono ?_;rintro e w9 ⟨rfl,rfl⟩;go_wp2_with fail;go_ret;exact ⟨wA.heap.size,out,rfl,HB.out.size,hI,hD2.out,hB2.out⟩
def K.times (nd:Int) (l:List Ro) (s k:Int):List Int:=if (K.aZ nd l == 0 && T.aT s 0 (nd - 1))=true then G.rounds k l nd.toNat ((List.replicate nd.toNat (-1)).set s.toNat 0) else []
theorem K.OC {m:Nat} {l:List Ro} {s k:Int} (h:K.aZ m l=0) (hs:T.aT s 0 ((m:Int) - 1)=true):G.wu m l k s (K.times m l s k):=by
 have h1:=K.I7 h;have h2:=T.lS.1 hs;unfold K.times;rw [if_pos (by rw [h,hs];rfl),kE];exact G.akT h1.2.2.1 (by omega)
theorem K.EY {nd:Int} {l:List Ro} {s k:Int} (h:(K.aZ nd l == 0 && T.aT s 0 (nd - 1))=false):K.times nd l s k=[]:=by
 unfold K.times;rw [if_neg (by simp [h])]
def JZ (w w':World) (l:ag) (e:Ending):Prop:=(∃ A n c,e=.returned (.slice A n c)/\Ints w' A n l)/\af w w'
theorem times_any (nd:Int) (A:aj) (n c:Nat) (l:List Ro) (s k:Int) (w:World) (hl:gq w A n l) (hn:n<=1000000000) :
  ay 192 #[.agg #[.int .i64 nd,.slice A n c],.int .i64 s,.int .i64 k] w λe w'=>JZ w w' (K.times nd l s k) e:=by
 have b0:=(dK w).alloc (zG _) (.cells #[.int .i64 nd,.slice A n c] 24);have hP:=Net.new w nd A n c;have p0:=hP.c0;have p1:=hP.c1;cases h1:(K.aZ nd l == 0)
 ·have HX:=zC (K.EY (s:=s) (k:=k) (show (K.aZ nd l == 0 && T.aT s 0 (nd - 1))=false by simp [h1]));have h1':(K.aZ nd l != 0)=true:=by simp [bne,h1]
  go_enter Tryz.func192,Tryz.ntmps192;go_wp2_with fail;refine (xN nd A n c l _ (hl.below b0) hn).mono ?_;rintro e w1 ⟨rfl,hb1⟩;go_wp2_with fail;go_ret;exact ⟨⟨none,0,0,rfl,by rw [HX.out];exact iQ _⟩,bel b0 hb1⟩
 ·have h1':(K.aZ nd l != 0)=false:=by simp [bne,h1]
  have hne:K.aZ nd l=0:=by simpa using h1
  have HE:=zC hne;obtain ⟨⟨n0,n1⟩,dP,rH,hmin⟩:=K.I7 hne;clear hne;cases h2:T.aT s 0 (nd - 1)
  ·have HX:=zC (K.EY (k:=k) (show (K.aZ nd l == 0 && T.aT s 0 (nd - 1))=false by simp [h2]));go_enter Tryz.func192,Tryz.ntmps192;go_wp2_with fail;refine (xN nd A n c l _ (hl.below b0) hn).mono ?_;rintro e w1 ⟨rfl,hb1⟩;have hP1:=hP.below hb1;have p0:=hP1.c0;have p1:=hP1.c1;go_wp2_with fail;refine (vN _ _ _ _).mono ?_;rintro e w' ⟨rfl,rfl⟩;go_wp2_with fail;go_ret;exact ⟨⟨none,0,0,rfl,by rw [HX.out];exact iQ _⟩,bel b0 hb1⟩
  ·obtain ⟨s0,s1⟩:=T.lS.1 h2;obtain ⟨m,rfl⟩:∃ m:Nat,nd=(m:Int):=⟨nd.toNat,by omega⟩;obtain ⟨t,rfl⟩:∃ t:Nat,s=(t:Int):=⟨s.toNat,by omega⟩;have HT:=zC (K.OC (k:=k) HE.out h2);have HF:=zC rH;have HM:=zC hmin;clear rH hmin;go_enter Tryz.func192,Tryz.ntmps192;go_wp2_with fail;refine (xN m A n c l _ (hl.below b0) hn).mono ?_;rintro e w1 ⟨rfl,hb1⟩;have hP1:=hP.below hb1;have p0:=hP1.c0;have p1:=hP1.c1;go_wp2_with fail;refine (vN _ _ _ _).mono ?_;rintro e w' ⟨rfl,rfl⟩;go_wp2_with fail;refine (adI m A n c l t k _ (hl.below (bel b0 hb1)) (by rw [hl.1];omega) (by omega) HF.out HM.out (by omega)).mono ?_;rintro e w2 ⟨g,out,rfl,hg,hI,hD,hb2⟩;have HE2:=zC (G.wu.eq HT.out hD);have hol:=hD.1;have oL:=zC hol;clear hD hol;go_wp2_with fail;go_ret;have hi:=hI.ints;rw [oL.out] at hi;exact ⟨⟨_,_,_,rfl,by rw [HE2.out];exact hi⟩,bel (bel b0 hb1) hb2⟩
namespace G
def Bd (out:ag) (B:Nat):Prop:=∀ x ∈ out,-1<=x/\x<=1000000 * (B:Int)
theorem Bd.mono {out:ag} {B C:Nat} (h:Bd out B) (hB:B<=C):Bd out C:=λx hx=>by have:=h x hx;omega
theorem Gp {out:ag} {v:Nat} {y:Int} (h:out[v]? = some y):at_ out (v:Int)=y:=by unfold at_;rw [kE,h];rfl
theorem Bd.set {out:ag} {B:Nat} (h:Bd out B) {a:Nat} {y mi:Int} (hy:out[a]? = some y) (h0:0<=y) (hm:1<=mi) (hm1:mi<=1000000) (b:Nat):Bd (out.set b (y + mi)) (B + 1):=by
 intro x hx;have hya:=h y (zD hy);rcases List.mem_or_eq_of_mem_set hx with hx | rfl
 ·have:=h x hx;omega
 ·omega
theorem akR {k:Int} {out:ag} {l:List Ro} {i:Nat} {x:Ro} (h:l[i]? = some x):round k out (l.drop i)=round k (step k out x) (l.drop (i + 1)):=by
 obtain ⟨hk,e⟩:=zE.1 h;rw [jE hk,e];rfl
end G
theorem Om (nd:Int) (A:aj) (n c:Nat) (l:List Ro) (s k:Int) (w:World) (hl:gq w A n l) (hn:n<=1000000000) :
  ay 147 #[.agg #[.int .i64 nd,.slice A n c],.int .i64 s,.int .i64 k] w λe w'=>JZ w w' (K.times nd l s k) e:=by
 have b0:=(dK w).alloc (zG _) (.cells #[.int .i64 nd,.slice A n c] 24);have hP:=Net.new w nd A n c;have p0:=hP.c0;have p1:=hP.c1;cases h1:(K.aZ nd l == 0)
 ·have HX:=zC (K.EY (s:=s) (k:=k) (show (K.aZ nd l == 0 && T.aT s 0 (nd - 1))=false by simp [h1]));have h1':(K.aZ nd l != 0)=true:=by simp [bne,h1]
  go_enter Tryz.func147,Tryz.ntmps147;go_wp2_with fail;refine (Jf nd A n c l _ (hl.below b0) hn).mono ?_;rintro e w1 ⟨rfl,hb1⟩;go_wp2_with fail;go_ret;exact ⟨⟨none,0,0,rfl,by rw [HX.out];exact iQ _⟩,bel b0 hb1⟩
 ·have h1':(K.aZ nd l != 0)=false:=by simp [bne,h1]
  have hne:K.aZ nd l=0:=by simpa using h1
  have HE:=zC hne;obtain ⟨⟨n0,n1⟩,dP,rH,hmin⟩:=K.I7 hne;clear hne;cases h2:T.aT s 0 (nd - 1)
  ·have HX:=zC (K.EY (k:=k) (show (K.aZ nd l == 0 && T.aT s 0 (nd - 1))=false by simp [h2]));go_enter Tryz.func147,Tryz.ntmps147;go_wp2_with fail;refine (Jf nd A n c l _ (hl.below b0) hn).mono ?_;rintro e w1 ⟨rfl,hb1⟩;have hP1:=hP.below hb1;have p0:=hP1.c0;have p1:=hP1.c1;go_wp2_with fail;refine (Dn _ _ _ _ _ _).mono ?_;rintro e w2 ⟨rfl,hb2⟩;go_wp2_with fail;go_ret;exact ⟨⟨none,0,0,rfl,by rw [HX.out];exact iQ _⟩,bel (bel b0 hb1) hb2⟩
  ·obtain ⟨s0,s1⟩:=T.lS.1 h2;obtain ⟨m,rfl⟩:∃ m:Nat,nd=(m:Int):=⟨nd.toNat,by omega⟩;obtain ⟨t,rfl⟩:∃ t:Nat,s=(t:Int):=⟨s.toNat,by omega⟩;have nC:t < m:=by omega
   have hK:K.times m l t k=G.rounds k l m ((List.replicate m (-1)).set t 0):=by
    unfold K.times;rw [if_pos (by rw [HE.out,h2];rfl),kE,kE]
   have HK:=zC hK;have HF:=zC rH;have HM:=zC hmin;have p_:=λw'=>CX m (by omega) w';have nP:n<=600:=by rw [hl.1];exact dP
   have hm1:m<=100:=by omega
   clear rH hmin hK;go_enter Tryz.func147,Tryz.ntmps147;go_wp2_with fail;refine (Jf m A n c l _ (hl.below b0) hn).mono ?_;rintro e w1 ⟨rfl,hb1⟩;have hP1:=hP.below hb1;have p0:=hP1.c0;have p1:=hP1.c1;go_wp2_with fail;refine (Dn _ _ _ _ _ _).mono ?_;rintro e wA ⟨rfl,hb2⟩;have BL:=hP1.below hb2;have ZY:=bel (bel b0 hb1) hb2;have hI0:eU (wA.alloc (.cells (intCells (List.replicate m 0)).toArray 3)) wA.heap.size (List.replicate m 0):=aA wA _;have hsA:w.heap.size < wA.heap.size:=lt_of_block BL;clear p0 p1 b0 hb1 hb2 hP1 hP;have p0:=BL.c0;have p1:=BL.c1;go_wp2_with fail;go_loopw [8] (λvi w3=>∃ i:Nat,vi=.int .i64 i/\i<=m/\eU w3 wA.heap.size (List.replicate i (-1) ++ List.replicate (m - i) 0)/\af wA w3) (λvi _=>m - (intOf vi).toNat)
   case atStart=>exact ⟨0,rfl,by omega,by simpa using hI0,ai.alloc (zG _) _⟩
   case round =>
    obtain ⟨i,rfl,hi,hI,hb3⟩:=hrel;by_cases him:i < m
    ·obtain ⟨i0,i1⟩:=zJ (a:=i) (b:=m) (by omega);have hz:(List.replicate i (-1:Int) ++ List.replicate (m - i) 0)[i]? = some 0:=by
      rw [List.getElem?_append_right (by simp),List.length_replicate,Nat.sub_self,List.getElem?_replicate,if_pos (show 0 < m - i by omega)]
     have hc0:=hI.cell hz;have hf0:=hI.free i;have jI:=zC (hI.set i (-1));clear hz;go_wp2_with fail;go_roundw
     case rel=>exact ⟨i + 1,by go_num,by omega,by rw [<-YI m i him];exact jI.out,hb3.setCell (zG _) _⟩
     case measure=>simp [intOf];omega
    ·obtain rfl:m=i:=by omega
     rw [Nat.sub_self,List.replicate_zero,List.append_nil] at hI;obtain ⟨t0,t1⟩:=zJ (a:=t) (b:=m) (by omega);have hc0:=hI.cell (k:=t) (x:=-1) (by rw [List.getElem?_replicate,if_pos nC]);have hf0:=hI.free t;have jI:=hI.set t 0;have hb4:af wA (wr.setCell ⟨wA.heap.size,t,none⟩ (.int .i64 0)):=hb3.setCell (zG _) _;have hBd:G.Bd ((List.replicate m (-1)).set t 0) 0:=by
      intro x hx;rcases List.mem_or_eq_of_mem_set hx with hx | rfl
      ·rw [List.mem_replicate] at hx;omega
      ·omega
     go_wp2_with fail;go_loopw [9] (λvi w5=>∃ (r:Nat) (out:ag),vi=.int .i64 r/\r<=m/\Hid (K.times m l t k=G.rounds k l (m - r) out)/\out.length=m/\G.Bd out (r * n)/\eU w5 wA.heap.size out/\af wA w5) (λvi _=>m - (intOf vi).toNat)
     case atStart=>exact ⟨0,_,rfl,by omega,HK.out,by simp,by simpa using hBd,jI,hb4⟩
     case round =>
      clear jI hb4 hBd hI hb3 hc0 hf0;obtain ⟨r,out,rfl,hr,hX,hol,hBd,hI,hb3⟩:=hrel;have q0:=(BL.below hb3).c0;have q1:=(BL.below hb3).c1;have oL:=zC hol;clear hol;by_cases hrm:r < m
      ·have Hg:Hid (K.times m l t k=G.rounds k l (m - (r + 1)) (G.round k out (l.drop 0))):=by
        show _=_;rw [hX.out,show m - r=m - (r + 1) + 1 by omega];rfl
       obtain ⟨wC,hwC⟩:=zB wr;rw [<-hwC] at hI hb3 q0 q1 ⊢;clear hwC;go_wp2_with fail;go_loopw [10] (λvi w6=>∃ (i:Nat) (o2:ag),vi=.int .i64 i/\i<=n/\Hid (K.times m l t k=G.rounds k l (m - (r + 1)) (G.round k o2 (l.drop i)))/\Hid (o2.length=m)/\G.Bd o2 (r * n + i)/\eU w6 wA.heap.size o2/\af wA w6) (λvi _=>n - (intOf vi).toNat)
       case atStart=>exact ⟨0,out,rfl,by omega,Hg,oL,hBd,hI,hb3⟩
       case round =>
        clear Hg hX oL hBd hI hb3 q0 q1;obtain ⟨i,out,rfl,hi,hX,oL,hBd,hI,hb3⟩:=hrel;have q0:=(BL.below hb3).c0;have q1:=(BL.below hb3).c1;by_cases hlt:i < n
        ·obtain ⟨ad,x,rfl,hx,c0,c1,c2,c3⟩:=gq.at_ (hl.below (bel ZY hb3)) hlt;have hxm:=zD hx;obtain ⟨⟨fa0,fa1⟩,⟨QM,QN⟩,KT⟩:=HF.out x hxm;have KU:=HM.out x hxm;have WO:=zC (G.akR (k:=k) (out:=out) hx);obtain ⟨fr,tt,mi,li⟩:=x;simp only at c0 c1 c2 c3 fa0 fa1 QM QN KT KU;obtain ⟨a,rfl⟩:∃ a:Nat,fr=(a:Int):=⟨fr.toNat,by omega⟩;obtain ⟨b,rfl⟩:∃ b:Nat,tt=(b:Int):=⟨tt.toNat,by omega⟩;obtain ⟨ya,hya⟩:∃ y,out[a]? = some y:=⟨_,zF (by rw [oL.out];omega)⟩;obtain ⟨yb,hyb⟩:∃ y,out[b]? = some y:=⟨_,zF (by rw [oL.out];omega)⟩;have hba:=hBd ya (zD hya);have hbb:=hBd yb (zD hyb);have hJ:r * n + i<=100000:=by
          have:=Nat.mul_le_mul (show r<=100 by omega) nP;omega
         have ya0:-1<=ya:=hba.1;have ya1:ya<=1000000000000:=by omega
         have yb0:-1<=yb:=hbb.1;have hst:G.step k out ⟨a,b,mi,li⟩=if (G.carries ⟨a,b,mi,li⟩ k && (decide (0<=ya) && (decide (yb < 0) || decide (ya + mi < yb))))=true then out.set b (ya + mi) else out:=by
          unfold G.step;rw [G.Gp hya,G.Gp hyb,kE]
         have HST:=zC hst;have WZ:=zC hya;have JR:=zC hyb;have ww:=zC hBd;have hwrap:IntKind.i64.wrap (ya + mi)=ya + mi:=dh _ (by omega);obtain ⟨wx,hwx⟩:=zB (wr.alloc (.cells #[.int .i64 a,.int .i64 b,.int .i64 mi,.int .i64 li] 134));have xy:wx.heap[wr.heap.size]? = some (.cells #[.int .i64 a,.int .i64 b,.int .i64 mi,.int .i64 li] 134 (0,0)):=by rw [hwx];exact aA _ _
         have bx:=aH hwx;have hIx:=hI.below bx hI.lt;have hbx:=bel hb3 bx;have e0:=ak.cell (ah xy 0 _ rfl);have e1:=ak.cell (ah xy 1 _ rfl);have e2:=ak.cell (ah xy 2 _ rfl);have e3:=ak.cell (ah xy 3 _ rfl);have ea:=ak.cell (hIx.cell hya);have eb:=ak.cell (hIx.cell hyb);have RC:=λj:ak wx=>akk a b mi li k j.val;have hX0:=hX;clear hx hxm hya hyb hba hbb hst hBd hI hb3 bx hX
         have hcase:(G.carries ⟨a,b,mi,li⟩ k=false)\/(G.carries ⟨a,b,mi,li⟩ k=true/\decide (0<=ya)=false)\/(G.carries ⟨a,b,mi,li⟩ k=true/\decide (0<=ya)=true/\decide (yb < 0)=false/\decide (ya + mi < yb)=false) \/
           (G.carries ⟨a,b,mi,li⟩ k=true/\decide (0<=ya)=true/\decide (yb < 0)=true)\/(G.carries ⟨a,b,mi,li⟩ k=true/\decide (0<=ya)=true/\decide (yb < 0)=false/\decide (ya + mi < yb)=true):=by
          cases G.carries ⟨a,b,mi,li⟩ k <;> cases decide (0<=ya) <;> cases decide (yb < 0) <;> cases decide (ya + mi < yb) <;> simp
         have uJ:=zC hcase;clear hcase;rcases uJ.out with g1 | ⟨g1,g2⟩ | ⟨g1,g2,g3,g4⟩ | ⟨g1,g2,g3⟩ | ⟨g1,g2,g3,g4⟩
         iterate 3
          ·have HN:=zC (show G.step k out ⟨a,b,mi,li⟩=out by rw [HST.out];simp only [*];simp);clear uJ hJ;simp only [g1] at RC;go_wp2_with fail;rw [<-hwx];clear hwx;refine fV (by kernel_rfl) (by kernel_rfl) ?_;repeat (go_big_quiet_step ((go_at_call 195;exact ak.calls (RC _))))
           refine wpQuiet_nil ?_;rintro w9 ⟨⟨_,b9⟩,rfl⟩;have jI:=hIx.below b9 hIx.lt;have ji:=bel hbx b9;clear e0 e1 e2 e3 ea eb RC b9 g1;go_wp2_with fail;go_roundw
           case rel=>exact ⟨i + 1,out,by go_num,by omega,by show _=_;rw [hX0.out,WO.out,HN.out],oL,ww.out.mono (by omega),jI,ji⟩
           case measure=>simp [intOf];omega
         iterate 2
          ·have HN:=zC (show G.step k out ⟨a,b,mi,li⟩=out.set b (ya + mi) by rw [HST.out];simp only [*];simp);have HL:=zC (show (out.set b (ya + mi)).length=m by rw [List.length_set];exact oL.out);have HB2:=zC (ww.out.set WZ.out (by simpa using g2) KT KU b);clear uJ hJ;simp only [g1] at RC;go_wp2_with fail;rw [<-hwx];clear hwx;refine fV (by kernel_rfl) (by kernel_rfl) ?_;repeat (go_big_quiet_step ((go_at_call 195;exact ak.calls (RC _))))
           refine wpQuiet_nil ?_;rintro w9 ⟨⟨_,b9⟩,rfl⟩;have jI:=hIx.below b9 hIx.lt;have ji:=bel hbx b9;have Sr:=au b9 xy;have x0:=ah Sr 0 _ rfl;have x1:=ah Sr 1 _ rfl;have x2:=ah Sr 2 _ rfl;have za:=jI.cell WZ.out;have zb:=jI.cell JR.out;have zf:=jI.free b;have hIs:=jI.set b (ya + mi);clear e0 e1 e2 e3 ea eb RC b9 g1;go_wp2_with fail;go_region
           all_goals
            go_wp2_with fail;go_roundw
            case rel=>exact ⟨i + 1,_,by go_num,by omega,by show _=_;rw [hX0.out,WO.out,HN.out],HL,by have h9:=HB2.out;rw [Nat.add_assoc] at h9;exact h9,hIs,(ji.setCell (zG _) _).drew⟩
            case measure=>simp [intOf];omega
        ·have hin:i=n:=by omega
         have hd:l.drop i=[]:=dF (by rw [<-hl.1];omega);have uO:=zC (show K.times m l t k=G.rounds k l (m - (r + 1)) out by rw [hX.out,hd];rfl);have hB2:G.Bd out ((r + 1) * n):=hBd.mono (by rw [Nat.add_mul];omega);clear hin hd hX;go_wp2_with fail;go_roundw
         case rel=>exact ⟨r + 1,out,by go_num,by omega,uO.out,oL.out,hB2,hI,hb3⟩
         case measure=>simp [intOf];omega
      ·have uO:=zC (show K.times m l t k=out by rw [hX.out,show m - r=0 by omega];rfl);have hi:=hI.ints;rw [oL.out] at hi;clear hX;go_wp2_with fail;go_ret;exact ⟨⟨_,_,_,rfl,by rw [uO.out];exact hi⟩,ZY.trans (hb3.mono (by omega))⟩
end Go.Proofs.YtippdjmpkafifaaGreat
