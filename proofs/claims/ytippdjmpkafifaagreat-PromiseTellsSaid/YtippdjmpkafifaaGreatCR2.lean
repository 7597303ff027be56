import Derived.Test.YtippdjmpkafifaaGreatCR1
import Derived.Deep.OwnRows
import Derived.Maps.OwnSet
import Derived.Lib.LazyBuf
set_option maxRecDepth 100000
set_option maxHeartbeats 64000000
namespace Go.Proofs.YtippdjmpkafifaaGreat
open Go.RowKit
namespace T
def aT (n lo hi:Int):Bool:=decide (lo<=n) && decide (n<=hi)
def right (q:Q):Bool:=aT q.node 0 99 && (aT q.room 0 2 && (aT q.a_ 1 1000000 && (aT q.service 0 1000000 && (decide (0<=q.aI) && (aT q.aP q.aI 100000 && H.right q.l)))))
end T
theorem fF (n lo hi:Int) (w:World):ay 167 #[.int .i64 n,.int .i64 lo,.int .i64 hi] w λe w'=>e=.returned (.bool (T.aT n lo hi))/\w=w':=by
 by_cases h:lo<=n
 ·go_enter Tryz.func167,Tryz.ntmps167;go_wp2
  all_goals (go_ret;exact ⟨aK (by simp [T.aT,h]),rfl⟩)
 ·have h':decide (lo<=n)=false:=by simpa using h
  have hh:=zC h;clear h;go_enter Tryz.func167,Tryz.ntmps167;go_wp2
  all_goals (go_ret;exact ⟨aK (by have:=hh.out;simp [T.aT];omega),rfl⟩)
theorem d_ (n lo hi:Int) (w:World):ay 197 #[.int .i64 n,.int .i64 lo,.int .i64 hi] w λe w'=>e=.returned (.bool (T.aT n lo hi))/\w=w':=by
 by_cases h:lo<=n
 ·go_enter Tryz.func197,Tryz.ntmps197;go_wp2
  all_goals (go_ret;exact ⟨aK (by simp [T.aT,h]),rfl⟩)
 ·have h':decide (lo<=n)=false:=by simpa using h
  have hh:=zC h;clear h;go_enter Tryz.func197,Tryz.ntmps197;go_wp2
  all_goals (go_ret;exact ⟨aK (by have:=hh.out;simp [T.aT];omega),rfl⟩)
theorem T.QG {q:Q} (h:(decide (0<=q.aI) && T.aT q.aP q.aI 100000)=false):T.right q=false:=by
 unfold T.right;cases h1:decide (0<=q.aI)
 ·simp
 ·rw [h1,Bool.true_and] at h;simp [h]
theorem OG (q:Q) (w:World) (hl:dA w q.A q.n q.l) (hn:q.n<=1000000000) :
  ay 119 #[iL q] w (bg w (T.right q)):=by
 obtain ⟨nd,rm,kl,sv,fr,b,A,n,c,l⟩:=q;simp only at hl hn ⊢;have b1:af w (w.alloc (.cells #[.int .i64 nd,.int .i64 rm,.int .i64 kl,.int .i64 sv,.int .i64 fr,.int .i64 b,.slice A n c] 47)):=ai.alloc (zG _) _;have hl1:=hl.below b1;cases h0:T.aT nd 0 99
 ·have H0:=zC h0;clear h0;go_enter Tryz.func119,Tryz.ntmps119;go_wp2_with fail;refine (fF _ _ _ _).mono ?_;rw [H0.out];rintro e w1 ⟨rfl,rfl⟩;go_wp2_with fail;go_ret;exact ⟨aK (by simp [T.right,H0.out]),b1⟩
 ·have H0:=zC h0;clear h0;cases h1:T.aT rm 0 2
  ·have H1:=zC h1;clear h1;go_enter Tryz.func119,Tryz.ntmps119;go_wp2_with fail;refine (fF _ _ _ _).mono ?_;rw [H0.out];rintro e w1 ⟨rfl,rfl⟩;go_wp2_with fail;refine (fF _ _ _ _).mono ?_;rw [H1.out];rintro e w1 ⟨rfl,rfl⟩;go_wp2_with fail;go_ret;exact ⟨aK (by simp [T.right,H0.out,H1.out]),b1⟩
  ·have H1:=zC h1;clear h1;cases h2:T.aT kl 1 1000000
   ·have H2:=zC h2;clear h2;go_enter Tryz.func119,Tryz.ntmps119;go_wp2_with fail;refine (fF _ _ _ _).mono ?_;rw [H0.out];rintro e w1 ⟨rfl,rfl⟩;go_wp2_with fail;refine (fF _ _ _ _).mono ?_;rw [H1.out];rintro e w1 ⟨rfl,rfl⟩;go_wp2_with fail;refine (fF _ _ _ _).mono ?_;rw [H2.out];rintro e w1 ⟨rfl,rfl⟩;go_wp2_with fail;go_ret;exact ⟨aK (by simp [T.right,H0.out,H1.out,H2.out]),b1⟩
   ·have H2:=zC h2;clear h2;by_cases g0:0<=fr/\fr<=b/\b<=100000
    ·obtain ⟨g1,g2,g3⟩:=g0;have e1:T.aT b fr 100000=true:=by simp [T.aT,g2,g3]
     have G:=zC (And.intro g1 (And.intro g2 g3));have E1:=zC e1;clear e1;cases h4:T.aT sv 0 1000000
     ·have H4:=zC h4;clear h4;go_enter Tryz.func119,Tryz.ntmps119;go_wp2_with fail;refine (fF _ _ _ _).mono ?_;rw [H0.out];rintro e w1 ⟨rfl,rfl⟩;go_wp2_with fail;refine (fF _ _ _ _).mono ?_;rw [H1.out];rintro e w1 ⟨rfl,rfl⟩;go_wp2_with fail;refine (fF _ _ _ _).mono ?_;rw [H2.out];rintro e w1 ⟨rfl,rfl⟩;go_wp2_with fail;refine (fF _ _ _ _).mono ?_;rw [H4.out];rintro e w1 ⟨rfl,rfl⟩;go_wp2_with fail;go_ret;exact ⟨aK (by simp [T.right,H0.out,H1.out,H2.out,E1.out,G.out,H4.out]),b1⟩
     ·have H4:=zC h4;clear h4;cases h5:H.right l
      ·have H5:=zC h5;clear h5;go_enter Tryz.func119,Tryz.ntmps119;go_wp2_with fail;refine (fF _ _ _ _).mono ?_;rw [H0.out];rintro e w1 ⟨rfl,rfl⟩;go_wp2_with fail;refine (fF _ _ _ _).mono ?_;rw [H1.out];rintro e w1 ⟨rfl,rfl⟩;go_wp2_with fail;refine (fF _ _ _ _).mono ?_;rw [H2.out];rintro e w1 ⟨rfl,rfl⟩;go_wp2_with fail;refine (fF _ _ _ _).mono ?_;rw [H4.out];rintro e w1 ⟨rfl,rfl⟩;go_wp2_with fail;refine (EF A n c l _ (hl.below b1) hn).mono ?_;rw [H5.out];rintro e w1 ⟨rfl,hb1⟩;go_wp2_with fail;go_ret;exact ⟨aK (by simp [T.right,H0.out,H1.out,H2.out,E1.out,G.out,H4.out,H5.out]),(bel b1 hb1)⟩
      ·have H5:=zC h5;clear h5;go_enter Tryz.func119,Tryz.ntmps119;go_wp2_with fail;refine (fF _ _ _ _).mono ?_;rw [H0.out];rintro e w1 ⟨rfl,rfl⟩;go_wp2_with fail;refine (fF _ _ _ _).mono ?_;rw [H1.out];rintro e w1 ⟨rfl,rfl⟩;go_wp2_with fail;refine (fF _ _ _ _).mono ?_;rw [H2.out];rintro e w1 ⟨rfl,rfl⟩;go_wp2_with fail;refine (fF _ _ _ _).mono ?_;rw [H4.out];rintro e w1 ⟨rfl,rfl⟩;go_wp2_with fail;refine (EF A n c l _ (hl.below b1) hn).mono ?_;rw [H5.out];rintro e w1 ⟨rfl,hb1⟩;go_wp2_with fail;go_ret;exact ⟨aK (by simp [T.right,H0.out,H1.out,H2.out,E1.out,G.out,H4.out,H5.out]),(bel b1 hb1)⟩
    ·have e1:(decide (0<=fr) && T.aT b fr 100000)=false:=by simp [T.aT];omega
     have E1:=zC e1;clear e1;by_cases g1:0<=fr
     ·by_cases g2:fr<=b
      ·have g3:decide (b<=100000)=false:=by simp;omega
       clear g0;go_enter Tryz.func119,Tryz.ntmps119;go_wp2_with fail;refine (fF _ _ _ _).mono ?_;rw [H0.out];rintro e w1 ⟨rfl,rfl⟩;go_wp2_with fail;refine (fF _ _ _ _).mono ?_;rw [H1.out];rintro e w1 ⟨rfl,rfl⟩;go_wp2_with fail;refine (fF _ _ _ _).mono ?_;rw [H2.out];rintro e w1 ⟨rfl,rfl⟩;go_wp2_with fail;go_ret;exact ⟨aK (Eq.symm (T.QG E1.out)),b1⟩
      ·have g3:decide (fr<=b)=false:=by simp;omega
       clear g0 g2;go_enter Tryz.func119,Tryz.ntmps119;go_wp2_with fail;refine (fF _ _ _ _).mono ?_;rw [H0.out];rintro e w1 ⟨rfl,rfl⟩;go_wp2_with fail;refine (fF _ _ _ _).mono ?_;rw [H1.out];rintro e w1 ⟨rfl,rfl⟩;go_wp2_with fail;refine (fF _ _ _ _).mono ?_;rw [H2.out];rintro e w1 ⟨rfl,rfl⟩;go_wp2_with fail;go_ret;exact ⟨aK (Eq.symm (T.QG E1.out)),b1⟩
     ·have g3:decide (0<=fr)=false:=by simp;omega
      clear g0 g1;go_enter Tryz.func119,Tryz.ntmps119;go_wp2_with fail;refine (fF _ _ _ _).mono ?_;rw [H0.out];rintro e w1 ⟨rfl,rfl⟩;go_wp2_with fail;refine (fF _ _ _ _).mono ?_;rw [H1.out];rintro e w1 ⟨rfl,rfl⟩;go_wp2_with fail;refine (fF _ _ _ _).mono ?_;rw [H2.out];rintro e w1 ⟨rfl,rfl⟩;go_wp2_with fail;go_ret;exact ⟨aK (Eq.symm (T.QG E1.out)),b1⟩
theorem Vw (q:Q) (w:World) (hl:dA w q.A q.n q.l) (hn:q.n<=1000000000) :
  ay 152 #[iL q] w (bg w (T.right q)):=by
 obtain ⟨nd,rm,kl,sv,fr,b,A,n,c,l⟩:=q;simp only at hl hn ⊢;have b1:af w (w.alloc (.cells #[.int .i64 nd,.int .i64 rm,.int .i64 kl,.int .i64 sv,.int .i64 fr,.int .i64 b,.slice A n c] 47)):=ai.alloc (zG _) _;have hl1:=hl.below b1;cases h0:T.aT nd 0 99
 ·have H0:=zC h0;clear h0;go_enter Tryz.func152,Tryz.ntmps152;go_wp2_with fail;refine (d_ _ _ _ _).mono ?_;rw [H0.out];rintro e w1 ⟨rfl,rfl⟩;go_wp2_with fail;go_ret;exact ⟨aK (by simp [T.right,H0.out]),b1⟩
 ·have H0:=zC h0;clear h0;cases h1:T.aT rm 0 2
  ·have H1:=zC h1;clear h1;go_enter Tryz.func152,Tryz.ntmps152;go_wp2_with fail;refine (d_ _ _ _ _).mono ?_;rw [H0.out];rintro e w1 ⟨rfl,rfl⟩;go_wp2_with fail;refine (d_ _ _ _ _).mono ?_;rw [H1.out];rintro e w1 ⟨rfl,rfl⟩;go_wp2_with fail;go_ret;exact ⟨aK (by simp [T.right,H0.out,H1.out]),b1⟩
  ·have H1:=zC h1;clear h1;cases h2:T.aT kl 1 1000000
   ·have H2:=zC h2;clear h2;go_enter Tryz.func152,Tryz.ntmps152;go_wp2_with fail;refine (d_ _ _ _ _).mono ?_;rw [H0.out];rintro e w1 ⟨rfl,rfl⟩;go_wp2_with fail;refine (d_ _ _ _ _).mono ?_;rw [H1.out];rintro e w1 ⟨rfl,rfl⟩;go_wp2_with fail;refine (d_ _ _ _ _).mono ?_;rw [H2.out];rintro e w1 ⟨rfl,rfl⟩;go_wp2_with fail;go_ret;exact ⟨aK (by simp [T.right,H0.out,H1.out,H2.out]),b1⟩
   ·have H2:=zC h2;clear h2;cases h3:T.aT sv 0 1000000
    ·have H3:=zC h3;clear h3;go_enter Tryz.func152,Tryz.ntmps152;go_wp2_with fail;refine (d_ _ _ _ _).mono ?_;rw [H0.out];rintro e w1 ⟨rfl,rfl⟩;go_wp2_with fail;refine (d_ _ _ _ _).mono ?_;rw [H1.out];rintro e w1 ⟨rfl,rfl⟩;go_wp2_with fail;refine (d_ _ _ _ _).mono ?_;rw [H2.out];rintro e w1 ⟨rfl,rfl⟩;go_wp2_with fail;refine (d_ _ _ _ _).mono ?_;rw [H3.out];rintro e w1 ⟨rfl,rfl⟩;go_wp2_with fail;go_ret;exact ⟨aK (by simp [T.right,H0.out,H1.out,H2.out,H3.out]),b1⟩
    ·have H3:=zC h3;clear h3;cases h4:decide (0<=fr)
     ·have H4:=zC h4;go_enter Tryz.func152,Tryz.ntmps152;go_wp2_with fail;refine (d_ _ _ _ _).mono ?_;rw [H0.out];rintro e w1 ⟨rfl,rfl⟩;go_wp2_with fail;refine (d_ _ _ _ _).mono ?_;rw [H1.out];rintro e w1 ⟨rfl,rfl⟩;go_wp2_with fail;refine (d_ _ _ _ _).mono ?_;rw [H2.out];rintro e w1 ⟨rfl,rfl⟩;go_wp2_with fail;refine (d_ _ _ _ _).mono ?_;rw [H3.out];rintro e w1 ⟨rfl,rfl⟩;go_wp2_with fail;go_ret;exact ⟨aK (by simp [T.right,H0.out,H1.out,H2.out,H3.out,H4.out]),b1⟩
     ·have H4:=zC h4;cases h5:T.aT b fr 100000
      ·have H5:=zC h5;clear h5;go_enter Tryz.func152,Tryz.ntmps152;go_wp2_with fail;refine (d_ _ _ _ _).mono ?_;rw [H0.out];rintro e w1 ⟨rfl,rfl⟩;go_wp2_with fail;refine (d_ _ _ _ _).mono ?_;rw [H1.out];rintro e w1 ⟨rfl,rfl⟩;go_wp2_with fail;refine (d_ _ _ _ _).mono ?_;rw [H2.out];rintro e w1 ⟨rfl,rfl⟩;go_wp2_with fail;refine (d_ _ _ _ _).mono ?_;rw [H3.out];rintro e w1 ⟨rfl,rfl⟩;go_wp2_with fail;refine (d_ _ _ _ _).mono ?_;rw [H5.out];rintro e w1 ⟨rfl,rfl⟩;go_wp2_with fail;go_ret;exact ⟨aK (by simp [T.right,H0.out,H1.out,H2.out,H3.out,H4.out,H5.out]),b1⟩
      ·have H5:=zC h5;clear h5;cases h6:H.right l
       ·have H6:=zC h6;clear h6;go_enter Tryz.func152,Tryz.ntmps152;go_wp2_with fail;refine (d_ _ _ _ _).mono ?_;rw [H0.out];rintro e w1 ⟨rfl,rfl⟩;go_wp2_with fail;refine (d_ _ _ _ _).mono ?_;rw [H1.out];rintro e w1 ⟨rfl,rfl⟩;go_wp2_with fail;refine (d_ _ _ _ _).mono ?_;rw [H2.out];rintro e w1 ⟨rfl,rfl⟩;go_wp2_with fail;refine (d_ _ _ _ _).mono ?_;rw [H3.out];rintro e w1 ⟨rfl,rfl⟩;go_wp2_with fail;refine (d_ _ _ _ _).mono ?_;rw [H5.out];rintro e w1 ⟨rfl,rfl⟩;go_wp2_with fail;refine (Dq A n c l _ (hl.below b1) hn).mono ?_;rw [H6.out];rintro e w1 ⟨rfl,hb1⟩;go_wp2_with fail;go_ret;exact ⟨aK (by simp [T.right,H0.out,H1.out,H2.out,H3.out,H4.out,H5.out,H6.out]),(bel b1 hb1)⟩
       ·have H6:=zC h6;clear h6;go_enter Tryz.func152,Tryz.ntmps152;go_wp2_with fail;refine (d_ _ _ _ _).mono ?_;rw [H0.out];rintro e w1 ⟨rfl,rfl⟩;go_wp2_with fail;refine (d_ _ _ _ _).mono ?_;rw [H1.out];rintro e w1 ⟨rfl,rfl⟩;go_wp2_with fail;refine (d_ _ _ _ _).mono ?_;rw [H2.out];rintro e w1 ⟨rfl,rfl⟩;go_wp2_with fail;refine (d_ _ _ _ _).mono ?_;rw [H3.out];rintro e w1 ⟨rfl,rfl⟩;go_wp2_with fail;refine (d_ _ _ _ _).mono ?_;rw [H5.out];rintro e w1 ⟨rfl,rfl⟩;go_wp2_with fail;refine (Dq A n c l _ (hl.below b1) hn).mono ?_;rw [H6.out];rintro e w1 ⟨rfl,hb1⟩;go_wp2_with fail;go_ret;exact ⟨aK (by simp [T.right,H0.out,H1.out,H2.out,H3.out,H4.out,H5.out,H6.out]),(bel b1 hb1)⟩
namespace T
def lT (s:S):Bool:=aT s.ax 0 99 && (decide (0<=s.start) && (decide (s.start<=s.end_) && decide (s.end_<=1000000)))
def heavy (l:ag):Bool:=l.any λx=>!aT x 0 1000000
def check (s:S):Int:=if aT s.day 0 100000=false then 17 else if lT s=false then 1 else if 3 < s.l.length then 6 else if heavy (s.aU :: s.l) then 20 else 0
end T
theorem T.Yd {s:S} (h:aT s.day 0 100000=false):T.check s=17:=by simp [T.check,h]
theorem T.Gw {s:S} (h:aT s.day 0 100000=true) (h2:T.lT s=false):T.check s=1:=by simp [T.check,h,h2]
theorem T.Ye {s:S} (h:aT s.day 0 100000=true) (h2:T.lT s=true) (h3:3 < s.l.length):T.check s=6:=by simp [T.check,h,h2,h3]
theorem T.Yf {s:S} (h:aT s.day 0 100000=true) (h2:T.lT s=true) (h3:¬ 3 < s.l.length):T.check s=if T.heavy (s.aU :: s.l) then 20 else 0:=by simp [T.check,h,h2];omega
theorem T.aai {l:ag} {k:Nat} {x:Int} (h:l[k]? = some x):T.heavy (l.drop k)=(!T.aT x 0 1000000 || T.heavy (l.drop (k + 1))):=by
 obtain ⟨hk,e⟩:=zE.1 h;rw [jE hk,e];rfl
theorem Tryz.info3:(Tryz.prog.info? 3).map (λi=>(i.zero,i.size,i.bytes))=some (some (.int .i64 0),1,8):=by kernel_rfl
theorem check_any (s:S) (w:World) (hl:Ints w s.A s.n s.l) (hn:s.n<=1000000000) :
  ay 118 #[fG s] w (og w (T.check s)):=by
 obtain ⟨dy,dp,st,en,ta,A,n,c,l⟩:=s;simp only at hl hn ⊢;have b1:af w (w.alloc (.cells #[.int .i64 dy,.int .i64 dp,.int .i64 st,.int .i64 en,.int .i64 ta,.slice A n c] 63)):=ai.alloc (zG _) _;cases h1:T.aT dy 0 100000
 ·go_enter Tryz.func118,Tryz.ntmps118;go_wp2_with fail;refine (fF _ _ _ _).mono ?_;rw [h1];rintro e w1 ⟨rfl,rfl⟩;go_wp2_with fail;go_ret;exact ⟨jm (T.Yd h1).symm,b1⟩
 ·have H1:=zC h1;clear h1;cases h2:T.aT dp 0 99
  ·have HD:=zC (show T.lT ⟨dy,dp,st,en,ta,A,n,c,l⟩=false by simp [T.lT,h2]);have H2:=zC h2;clear h2;go_enter Tryz.func118,Tryz.ntmps118;go_wp2_with fail;refine (fF _ _ _ _).mono ?_;rw [H1.out];rintro e w1 ⟨rfl,rfl⟩;go_wp2_with fail;refine (fF _ _ _ _).mono ?_;rw [H2.out];rintro e w1 ⟨rfl,rfl⟩;go_wp2_with fail;go_ret;exact ⟨jm (T.Gw H1.out HD.out).symm,b1⟩
  ·have H2:=zC h2;by_cases h0:0<=st/\st<=en/\en<=1000000
   ·have HD:=zC (show T.lT ⟨dy,dp,st,en,ta,A,n,c,l⟩=true by simp [T.lT,h2,h0]);obtain ⟨h3,h4,h5⟩:=h0;have q3:decide (st < 0)=false:=by simpa using h3
    have q4:decide (en < st)=false:=by simpa using h4
    have q5:decide (1000000 < en)=false:=by simpa using h5
    clear h2 h3 h4 h5;by_cases h6:3 < n
    ·have q6:decide ((3:Int) < (n:Int))=true:=by simp;omega
     have HF:=zC (T.Ye (s:=⟨dy,dp,st,en,ta,A,n,c,l⟩) H1.out HD.out (by rw [<-hl.1];exact h6));go_enter Tryz.func118,Tryz.ntmps118;go_wp2_with fail;refine (fF _ _ _ _).mono ?_;rw [H1.out];rintro e w1 ⟨rfl,rfl⟩;go_wp2_with fail;refine (fF _ _ _ _).mono ?_;rw [H2.out];rintro e w1 ⟨rfl,rfl⟩;go_wp2_with fail;go_ret;exact ⟨jm HF.out.symm,b1⟩
    ·have q6:decide ((3:Int) < (n:Int))=false:=by simp;omega
     have HF:=zC (T.Yf (s:=⟨dy,dp,st,en,ta,A,n,c,l⟩) H1.out HD.out (by rw [<-hl.1];exact h6));obtain ⟨i0,hi,hz0,hz1,hz2⟩:=info_parts Tryz.info3;have hl1:=(hl.below b1).2.below ((ai.alloc (zG _) (.cells #[.int .i64 ta] 3)));have iK:=World.ownsRow_lit (base:=w.heap.size) (e:=3) (size:=1) (w.alloc (.cells #[.int .i64 dy,.int .i64 dp,.int .i64 st,.int .i64 en,.int .i64 ta,.slice A n c] 63)) #[.int .i64 ta] 1 b1.size (by simp [maxLen]) rfl;have hsz:(w.alloc (.cells #[.int .i64 dy,.int .i64 dp,.int .i64 st,.int .i64 en,.int .i64 ta,.slice A n c] 63)).heap.size=w.heap.size + 1:=aF ..;rw [hsz] at iK;clear hsz;go_enter Tryz.func118,Tryz.ntmps118;go_wp2_with fail;refine (fF _ _ _ _).mono ?_;rw [H1.out];rintro e w1 ⟨rfl,rfl⟩;go_wp2_with fail;refine (fF _ _ _ _).mono ?_;rw [H2.out];rintro e w1 ⟨rfl,rfl⟩;go_wp2_with (at_builtin;refine nU rfl (.tmp 39) (.tmp 41) 48 rfl w.heap.size 3 i0 (.int .i64 0) 1 8 Tryz.underlying48 hi hz0 hz1 hz2 rfl (by decide) _ 1 _ rfl iK A n c (intCells l) rfl hl1 (qI l) (by simp only [maxLen];omega) (by omega) (by first | (simp;done) | (simp;omega)) ?_;intro v' w4 hown4 hgrow4 uj;obtain ⟨A',c',rfl,hI⟩:=o_ (l:=ta :: l) hown4 (by rw [dQ,<-hl.1];omega));have b4:af w w4:=uU (b1.alloc b1.size _) (zG _) hgrow4 (λg h=>(iK.lt g h).1);clear hown4 hgrow4 uj iK hl1 hi hz0 hz1 hz2;go_loopw [44] (λvi wr=>∃ k:Nat,vi=.int .i64 k/\k<=1 + n/\Hid (T.heavy (ta :: l)=T.heavy ((ta :: l).drop k))/\w4=wr) (λvi _=>1 + n - (intOf vi).toNat)
     case atStart=>exact ⟨0,rfl,by omega,rfl,rfl⟩
     case round =>
      obtain ⟨k,rfl,hk,hr,rfl⟩:=hrel;by_cases hlt:k < 1 + n
      ·obtain ⟨ad,x,rfl,hg,c0⟩:=hI.at_ hlt;have HS:=zC (T.aai hg);clear hg;go_wp2_with fail;refine (fF _ _ _ _).mono ?_;rintro e w1 ⟨rfl,rfl⟩;cases hx:T.aT x 0 1000000
       ·go_wp2_with fail;go_ret;exact ⟨jm (Eq.symm (by rw [HF.out,hr.out,HS.out,hx];rfl)),b4⟩
       ·go_wp2_with fail;go_roundw
        case rel=>exact ⟨k + 1,by go_num,by omega,by show _=_;rw [hr.out,HS.out,hx];rfl,trivial⟩
        case measure=>simp [intOf];omega
      ·have hd:(ta :: l).drop k=[]:=dF (by rw [dQ,<-hl.1];omega);have HN:=zC hd;clear hd;go_wp2_with fail;go_ret;exact ⟨jm (Eq.symm (by rw [HF.out,hr.out,HN.out];rfl)),b4⟩
   ·have HD:=zC (show T.lT ⟨dy,dp,st,en,ta,A,n,c,l⟩=false by simp [T.lT,h2];omega);clear h2;have hc:(decide (st < 0)=true)\/(decide (st < 0)=false/\decide (en < st)=true)\/(decide (st < 0)=false/\decide (en < st)=false/\decide (1000000 < en)=true):=by simp;omega
    clear h0;rcases hc with q3 | ⟨q3,q4⟩ | ⟨q3,q4,q5⟩
    all_goals
     go_enter Tryz.func118,Tryz.ntmps118;go_wp2_with fail;refine (fF _ _ _ _).mono ?_;rw [H1.out];rintro e w1 ⟨rfl,rfl⟩;go_wp2_with fail;refine (fF _ _ _ _).mono ?_;rw [H2.out];rintro e w1 ⟨rfl,rfl⟩;go_wp2_with fail;go_ret;exact ⟨jm (T.Gw H1.out HD.out).symm,b1⟩
theorem N7 (s:S) (w:World) (hl:Ints w s.A s.n s.l) (hn:s.n<=1000000000) :
  ay 154 #[fG s] w (og w (T.check s)):=by
 obtain ⟨dy,dp,st,en,ta,A,n,c,l⟩:=s;simp only at hl hn ⊢;have b1:af w (w.alloc (.cells #[.int .i64 dy,.int .i64 dp,.int .i64 st,.int .i64 en,.int .i64 ta,.slice A n c] 63)):=ai.alloc (zG _) _;cases h1:T.aT dy 0 100000
 ·go_enter Tryz.func154,Tryz.ntmps154;go_wp2_with fail;refine (d_ _ _ _ _).mono ?_;rw [h1];rintro e w1 ⟨rfl,rfl⟩;go_wp2_with fail;go_ret;exact ⟨jm (T.Yd h1).symm,b1⟩
 ·have H1:=zC h1;clear h1;cases h2:T.aT dp 0 99
  ·have HD:=zC (show T.lT ⟨dy,dp,st,en,ta,A,n,c,l⟩=false by simp [T.lT,h2]);have H2:=zC h2;clear h2;go_enter Tryz.func154,Tryz.ntmps154;go_wp2_with fail;refine (d_ _ _ _ _).mono ?_;rw [H1.out];rintro e w1 ⟨rfl,rfl⟩;go_wp2_with fail;refine (d_ _ _ _ _).mono ?_;rw [H2.out];rintro e w1 ⟨rfl,rfl⟩;go_wp2_with fail;go_ret;exact ⟨jm (T.Gw H1.out HD.out).symm,b1⟩
  ·have H2:=zC h2;by_cases h3:0<=st
   ·have q3:decide (st < 0)=false:=by simpa using h3
    cases h4:T.aT en st 1000000
    ·have HD:=zC (show T.lT ⟨dy,dp,st,en,ta,A,n,c,l⟩=false by simp only [T.lT,h2,Bool.true_and];unfold T.aT at h4;rw [h4,Bool.and_false]);have H4:=zC h4;clear h2 h3 h4;go_enter Tryz.func154,Tryz.ntmps154;go_wp2_with fail;refine (d_ _ _ _ _).mono ?_;rw [H1.out];rintro e w1 ⟨rfl,rfl⟩;go_wp2_with fail;refine (d_ _ _ _ _).mono ?_;rw [H2.out];rintro e w1 ⟨rfl,rfl⟩;go_wp2_with fail;refine (d_ _ _ _ _).mono ?_;rw [H4.out];rintro e w1 ⟨rfl,rfl⟩;go_wp2_with fail;go_ret;exact ⟨jm (T.Gw H1.out HD.out).symm,b1⟩
    ·have HD:=zC (show T.lT ⟨dy,dp,st,en,ta,A,n,c,l⟩=true by simp only [T.lT,h2,Bool.true_and];unfold T.aT at h4;rw [h4,Bool.and_true];simpa using h3);have H4:=zC h4;clear h2 h3 h4;by_cases h6:3 < n
     ·have q6:decide ((3:Int) < (n:Int))=true:=by simp;omega
      have HF:=zC (T.Ye (s:=⟨dy,dp,st,en,ta,A,n,c,l⟩) H1.out HD.out (by rw [<-hl.1];exact h6));go_enter Tryz.func154,Tryz.ntmps154;go_wp2_with fail;refine (d_ _ _ _ _).mono ?_;rw [H1.out];rintro e w1 ⟨rfl,rfl⟩;go_wp2_with fail;refine (d_ _ _ _ _).mono ?_;rw [H2.out];rintro e w1 ⟨rfl,rfl⟩;go_wp2_with fail;refine (d_ _ _ _ _).mono ?_;rw [H4.out];rintro e w1 ⟨rfl,rfl⟩;go_wp2_with fail;go_ret;exact ⟨jm HF.out.symm,b1⟩
     ·have q6:decide ((3:Int) < (n:Int))=false:=by simp;omega
      have HF:=zC (T.Yf (s:=⟨dy,dp,st,en,ta,A,n,c,l⟩) H1.out HD.out (by rw [<-hl.1];exact h6));have hl1:=hl.below b1;go_enter Tryz.func154,Tryz.ntmps154;go_wp2_with fail;refine (d_ _ _ _ _).mono ?_;rw [H1.out];rintro e w1 ⟨rfl,rfl⟩;go_wp2_with fail;refine (d_ _ _ _ _).mono ?_;rw [H2.out];rintro e w1 ⟨rfl,rfl⟩;go_wp2_with fail;refine (d_ _ _ _ _).mono ?_;rw [H4.out];rintro e w1 ⟨rfl,rfl⟩;go_wp2_with fail;refine (d_ _ _ _ _).mono ?_;rintro e w1 ⟨rfl,rfl⟩;go_wp2_with fail;go_loopw [3,4] (λvh vi wr=>∃ (hv:Bool) (k:Nat),vh=.bool hv/\vi=.int .i64 k/\k<=n/\Hid (T.heavy (ta :: l)=(hv || T.heavy (l.drop k)))/\w.alloc (.cells #[.int .i64 dy,.int .i64 dp,.int .i64 st,.int .i64 en,.int .i64 ta,.slice A n c] 63)=wr) (λ_ vi _=>n - (intOf vi).toNat)
      case atStart=>exact ⟨_,0,rfl,rfl,by omega,rfl,rfl⟩
      case round =>
       obtain ⟨hv,k,rfl,rfl,hk,hr,rfl⟩:=hrel;by_cases hlt:k < n
       ·obtain ⟨ad,x,rfl,hg,c0⟩:=hl1.at_ hlt;have HS:=zC (T.aai hg);clear hg;cases hv
        ·go_wp2_with fail;refine (d_ _ _ _ _).mono ?_;rintro e w1 ⟨rfl,rfl⟩;go_wp2_with fail;go_roundw
         case rel=>exact ⟨_,k + 1,rfl,by go_num,by omega,by show _=_;rw [hr.out,HS.out];rfl,trivial⟩
         case measure=>simp [intOf];omega
        ·go_wp2_with fail;go_roundw
         case rel=>exact ⟨true,k + 1,rfl,by go_num,by omega,by show _=_;rw [hr.out];rfl,trivial⟩
         case measure=>simp [intOf];omega
       ·have hd:l.drop k=[]:=dF (by rw [<-hl.1];omega);have HN:=zC hd;clear hd;cases hv
        ·go_wp2_with fail;go_ret;exact ⟨jm (Eq.symm (by rw [HF.out,hr.out,HN.out];rfl)),b1⟩
        ·go_wp2_with fail;go_ret;exact ⟨jm (Eq.symm (by rw [HF.out,hr.out,HN.out];rfl)),b1⟩
   ·have HD:=zC (show T.lT ⟨dy,dp,st,en,ta,A,n,c,l⟩=false by simp [T.lT,h2];omega);have q3:decide (st < 0)=true:=by simpa using h3
    clear h2 h3;go_enter Tryz.func154,Tryz.ntmps154;go_wp2_with fail;refine (d_ _ _ _ _).mono ?_;rw [H1.out];rintro e w1 ⟨rfl,rfl⟩;go_wp2_with fail;refine (d_ _ _ _ _).mono ?_;rw [H2.out];rintro e w1 ⟨rfl,rfl⟩;go_wp2_with fail;go_ret;exact ⟨jm (T.Gw H1.out HD.out).symm,b1⟩
theorem aiM (q:Q) (w:World) (hl:dA w q.A q.n q.l) (hn:q.n<=1000000000) :
  ay 200 #[iL q] w (bg w (!T.right q)):=by
 go_enter Tryz.func200,Tryz.ntmps200;go_wp2_with fail;refine (OG q _ (hl.below ?_) hn).mono ?_
 ·exact ai.alloc (zG _) _
 rintro e w1 ⟨rfl,hb1⟩;go_wp2_with fail;go_ret;exact ⟨rfl,bel (ai.alloc (zG _) _) hb1⟩
theorem aii (A:aj) (n c:Nat) (l:List Q) (w:World) (hl:dm w A n l) (hn:n<=1000000000) (hq:∀ q ∈ l,q.n<=1000000000) :
  ay 202 #[.slice A n c,.func (.func 200) #[] #[]] w λe w'=>(∃ i:Int,e=.returned (.int .i64 i)/\(decide (0<=i))=l.any λq=>!T.right q)/\af w w':=by
 go_enter Tryz.func202,Tryz.ntmps202;go_wp2_with fail;go_loopw [8] (λvi wr=>∃ k:Nat,vi=.int .i64 k/\k<=n/\Hid ((l.any λq=>!T.right q)=(l.drop k).any λq=>!T.right q)/\af w wr) (λvi _=>n - (intOf vi).toNat)
 case atStart=>exact ⟨0,rfl,by omega,by show _=_;rw [List.drop_zero],ai⟩
 case round =>
  obtain ⟨k,rfl,hk,hr,hbr⟩:=hrel;by_cases hlt:k < n
  ·obtain ⟨ad,q,rfl,hg,hwq,c0,c1,c2,c3,c4,c5,c6⟩:=(hl.below hbr).at_ hlt;have fU:=hq q (zD hg);have HS:=zC (oU (p:=λq=>!T.right q) hg);clear hg;go_wp2_with fail;refine (aiM q _ hwq fU).mono ?_;rintro e w1 ⟨rfl,hb1⟩;cases hpx:T.right q
   ·go_wp2_with fail;go_ret;exact ⟨⟨k,rfl,by rw [hr.out,HS.out,hpx];simp⟩,bel hbr hb1⟩
   ·go_wp2_with fail;go_roundw
    case rel=>exact ⟨k + 1,by go_num,by omega,by show _=_;rw [hr.out,HS.out,hpx];rfl,bel hbr hb1⟩
    case measure=>simp [intOf];omega
  ·have hd:l.drop k=[]:=dF (by rw [<-hl.1];omega);have HD:=zC hd;clear hd;go_wp2_with fail;go_ret;exact ⟨⟨-1,rfl,by rw [hr.out,HD.out];rfl⟩,hbr⟩
theorem containsQ (A:aj) (n c:Nat) (l:List Q) (w:World) (hl:dm w A n l) (hn:n<=1000000000) (hq:∀ q ∈ l,q.n<=1000000000) :
  ay 175 #[.slice A n c,.func (.func 200) #[] #[]] w (bg w (l.any λq=>!T.right q)):=by
 go_enter Tryz.func175,Tryz.ntmps175;go_wp2_with fail;refine (aii A n c l _ hl hn hq).mono ?_;rintro e w1 ⟨⟨i,rfl,hi⟩,hb1⟩;go_wp2_with fail;go_ret;exact ⟨rfl,hb1⟩
theorem VN {la lb:ag} {k:Nat} {x y:Int} (hx:la[k]? = some x) (hy:lb[k]? = some y) (h:la.take k=lb.take k):la.take (k + 1)=lb.take (k + 1) ↔ x=y:=by
 obtain ⟨h1,e1⟩:=zE.1 hx;obtain ⟨h2,e2⟩:=zE.1 hy;rw [sV h1,sV h2,e1,e2,h];simp
theorem EU (A B:aj) (n m c d:Nat) (la lb:ag) (w:World) (hla:Ints w A n la) (hlb:Ints w B m lb) (hn:n<=1000000000) (hm:m<=1000000000) :
  ay 93 #[.slice A n c,.slice B m d] w (bg w (decide (la=lb))):=by
 by_cases hnm:n=m
 ·obtain rfl:=hnm;go_enter Tryz.func93,Tryz.ntmps93;go_wp2_with fail;go_loopw [5] (λvi wr=>∃ k:Nat,vi=.int .i64 k/\k<=n/\Hid (la.take k=lb.take k)/\af w wr) (λvi _=>n - (intOf vi).toNat)
  case atStart=>exact ⟨0,rfl,by omega,rfl,ai⟩
  case round =>
   obtain ⟨k,rfl,hk,hr,hb⟩:=hrel;by_cases hlt:k < n
   ·obtain ⟨ad,o,rfl,hg,c0⟩:=(hla.below hb).at_ hlt;obtain ⟨lM,o2,rfl,hg2,X6⟩:=(hlb.below hb).at_ hlt;have HN:=zC (VN hg hg2 hr.out);clear hg hg2;by_cases ho:o=o2
    ·have HX:=zC (HN.out.2 ho);subst ho;go_wp2_with fail;go_quiet (fail);go_wp2_with fail;go_roundw
     case rel=>exact ⟨k + 1,by go_num,by omega,HX.out,below_drewN hb _⟩
     case measure=>simp [intOf];omega
    ·have HX:=zC (λh=>ho (HN.out.1 h));have q2:(o == o2)=false:=by simpa using ho
     go_wp2_with fail;go_quiet (fail);go_wp2_with fail;go_ret;exact ⟨aK (Eq.symm (zI (λh=>HX.out (by rw [h])))),below_drewN hb _⟩
   ·have HX:=zC (show la=lb by
     have h:=hr.out;rw [fD (by rw [<-hla.1];omega),fD (by rw [<-hlb.1];omega)] at h;exact h)
    go_wp2_with fail;go_ret;exact ⟨aK (Eq.symm (zH HX.out)),hb⟩
 ·have HX:=zC (show ¬ la=lb from λh=>hnm (by rw [hla.1,hlb.1,h]));have q1:(((n:Nat):Int) != ((m:Nat):Int))=true:=by simp;omega
  go_enter Tryz.func93,Tryz.ntmps93;go_wp2_with fail;go_ret;exact ⟨aK (Eq.symm (zI HX.out)),ai⟩
namespace T
def qJ (n:Int):List Int->List Int->Bool
 | _,[]=>true
 | before,x :: l=>decide (0<=x) && (decide (x < n) && (!(before.any (· == x)) && qJ n (before ++ [x]) l))
def isSet (n:Int) (l:ag):Bool:=qJ n [] l
end T
theorem T.aa4 {n:Int} {l:ag} {k:Nat} {x:Int} (h:l[k]? = some x) :
  T.qJ n (l.take k) (l.drop k)=(decide (0<=x) && (decide (x < n) && (!((l.take k).any (· == x)) && T.qJ n (l.take (k + 1)) (l.drop (k + 1))))):=by
 obtain ⟨hk,e⟩:=zE.1 h;rw [jE hk,e,sV hk,e];rfl
theorem T.aeY {l:ag} {k j:Nat} {x y:Int} (hj:j < k) (h:l[j]? = some y):((l.take k).drop j).any (· == x)=((y == x) || ((l.take k).drop (j + 1)).any (· == x)):=by
 have h':(l.take k)[j]? = some y:=by rw [List.getElem?_take,if_pos hj];exact h
 obtain ⟨hk,e⟩:=zE.1 h';rw [jE hk,e];rfl
theorem aa3 (A:aj) (n c:Nat) (l:ag) (m:Int) (w:World) (hl:Ints w A n l) (hn:n<=1000000000) :
  ay 212 #[.slice A n c,.int .i64 m] w (bg w (T.isSet m l)):=by
 go_enter Tryz.func212,Tryz.ntmps212;go_wp2_with fail;go_loopw [5] (λvi wr=>∃ k:Nat,vi=.int .i64 k/\k<=n/\Hid (T.isSet m l=T.qJ m (l.take k) (l.drop k))/\af w wr) (λvi _=>n - (intOf vi).toNat)
 case atStart=>exact ⟨0,rfl,by omega,by show _=_;rfl,ai⟩
 case round =>
  obtain ⟨k,rfl,hk,hr,hb⟩:=hrel;by_cases hlt:k < n
  ·obtain ⟨ad,x,rfl,hg,c0⟩:=(hl.below hb).at_ hlt;have HS:=zC (T.aa4 (n:=m) hg);by_cases h1:0<=x
   ·by_cases h2:x < m
    ·have q1:decide (x < 0)=false:=by simpa using h1
     have q2:decide (m<=x)=false:=by simpa using h2
     go_wp2_with fail;obtain ⟨wo,rfl⟩:=zB wr;go_loopw [6] (λvj wj=>∃ j:Nat,vj=.int .i64 j/\j<=k/\Hid ((l.take k).any (· == x)=((l.take k).drop j).any (· == x))/\af w wj) (λvj _=>k - (intOf vj).toNat)
     case atStart=>exact ⟨0,rfl,by omega,by show _=_;rw [List.drop_zero],hb⟩
     case round =>
      obtain ⟨j,rfl,hj,hs,hbj⟩:=hrel;by_cases hjt:j < k
      ·obtain ⟨lM,y,he2,hg2,c2⟩:=(hl.below hbj).at_ (show j < n by omega);injection he2 with he2;subst he2;obtain ⟨ad3,x3,he3,hg3,c3⟩:=(hl.below hbj).at_ hlt;injection he3 with he3;subst he3;rw [hg] at hg3;injection hg3 with hg3;subst hg3;have HS2:=zC (T.aeY (x:=x) hjt hg2);clear hg2;by_cases hxy:y=x
       ·have q3:(y == x)=true:=by simpa using hxy
        have HX:=zC (show T.isSet m l=false by
         rw [hr.out,HS.out,hs.out,HS2.out,q3];simp)
        clear hxy;go_wp2_with fail;go_quiet (fail);go_wp2_with fail;go_ret;exact ⟨aK HX.out.symm,below_drewN hbj _⟩
       ·have q3:(y == x)=false:=by simpa using hxy
        clear hxy;go_wp2_with fail;go_quiet (fail);go_wp2_with fail;go_roundw
        case rel=>exact ⟨j + 1,by go_num,by omega,by show _=_;rw [hs.out,HS2.out,q3];rfl,below_drewN hbj _⟩
        case measure=>simp [intOf];omega
      ·have hd2:(l.take k).drop j=[]:=dF (by rw [List.length_take];omega);have HX:=zC (show T.isSet m l=T.qJ m (l.take (k + 1)) (l.drop (k + 1)) by
        rw [hr.out,HS.out,hs.out,hd2];simp [h1,h2])
       clear hd2;go_wp2_with fail;go_roundw
       case rel=>exact ⟨k + 1,by go_num,by omega,HX.out,hbj⟩
       case measure=>simp [intOf];omega
    ·have q1:decide (x < 0)=false:=by simpa using h1
     have q2:decide (m<=x)=true:=by simpa using h2
     have HX:=zC (show T.isSet m l=false by rw [hr.out,HS.out];simp [h2]);clear h1 h2 hg;go_wp2_with fail;go_ret;exact ⟨aK HX.out.symm,hb⟩
   ·have q1:decide (x < 0)=true:=by simpa using h1
    have HX:=zC (show T.isSet m l=false by rw [hr.out,HS.out];simp [h1]);clear h1 hg;go_wp2_with fail;go_ret;exact ⟨aK HX.out.symm,hb⟩
  ·have hd:l.drop k=[]:=dF (by rw [<-hl.1];omega);have HD:=zC hd;clear hd;go_wp2_with fail;go_ret;exact ⟨aK (Eq.symm (by rw [hr.out,HD.out];rfl)),hb⟩
namespace T
def load (s:S) (r:List Q) (l:ag):Bool:=(check s == 0) && (isSet r.length l && !(r.any λq=>!right q))
end T
theorem UM (s:S) (B:aj) (m d:Nat) (r:List Q) (A:aj) (n c:Nat) (l:ag) (w:World) (hs:Ints w s.A s.n s.l) (hsn:s.n<=1000000000) (hq:dm w B m r) (hm:m<=1000000000) (fU:∀ q ∈ r,q.n<=1000000000) (hl:Ints w A n l) (hn:n<=1000000000) :
  ay 205 #[fG s,.slice B m d,.slice A n c] w (bg w (T.load s r l)):=by
 cases h1:(T.check s == 0)
 ·have HF:=zC (show T.load s r l=false by simp [T.load,h1]);have q1:(T.check s != 0)=true:=by simp [bne,h1]
  clear h1;go_enter Tryz.func205,Tryz.ntmps205;go_wp2_with fail;refine (N7 s _ (hs.below (ai.alloc (zG _) _)) hsn).mono ?_;rintro e w1 ⟨rfl,hb1'⟩;have hb1:=bel (ai.alloc (zG _) _) hb1';clear hb1';go_wp2_with fail;go_ret;exact ⟨aK HF.out.symm,hb1⟩
 ·have q1:(T.check s != 0)=false:=by simp [bne,h1]
  cases h2:T.isSet m l
  ·have HF:=zC (show T.load s r l=false by simp only [T.load];rw [<-hq.1,h2];simp);have H2:=zC h2;clear h2;go_enter Tryz.func205,Tryz.ntmps205;go_wp2_with fail;refine (N7 s _ (hs.below (ai.alloc (zG _) _)) hsn).mono ?_;rintro e w1 ⟨rfl,hb1'⟩;have hb1:=bel (ai.alloc (zG _) _) hb1';clear hb1';go_wp2_with fail;refine (aa3 A n c l m _ (hl.below hb1) hn).mono ?_;rw [H2.out];rintro e w2 ⟨rfl,hb2⟩;go_wp2_with fail;go_ret;exact ⟨aK HF.out.symm,bel hb1 hb2⟩
  ·have HF:=zC (show T.load s r l=!(r.any λq=>!T.right q) by simp only [T.load];rw [h1,<-hq.1,h2];simp);have H2:=zC h2;clear h2;go_enter Tryz.func205,Tryz.ntmps205;go_wp2_with fail;refine (N7 s _ (hs.below (ai.alloc (zG _) _)) hsn).mono ?_;rintro e w1 ⟨rfl,hb1'⟩;have hb1:=bel (ai.alloc (zG _) _) hb1';clear hb1';go_wp2_with fail;refine (aa3 A n c l m _ (hl.below hb1) hn).mono ?_;rw [H2.out];rintro e w2 ⟨rfl,hb2⟩;have hb:=bel hb1 hb2;clear hb1 hb2;go_wp2_with fail;go_loopw [7] (λvi wr=>∃ k:Nat,vi=.int .i64 k/\k<=m/\Hid ((r.any λq=>!T.right q)=(r.drop k).any λq=>!T.right q)/\af w wr) (λvi _=>m - (intOf vi).toNat)
   case atStart=>exact ⟨0,rfl,by omega,by show _=_;rw [List.drop_zero],hb⟩
   case round =>
    obtain ⟨k,rfl,hk,hr,hbr⟩:=hrel;by_cases hlt:k < m
    ·obtain ⟨ad,q,rfl,hg,hwq,c0,c1,c2,c3,c4,c5,c6⟩:=(hq.below hbr).at_ hlt;have hqq:=fU q (zD hg);have HS:=zC (oU (p:=λq=>!T.right q) hg);clear hg;go_wp2_with fail;refine (Vw q _ hwq hqq).mono ?_;rintro e w3 ⟨rfl,hb3⟩;cases hpx:T.right q
     ·go_wp2_with fail;go_ret;exact ⟨aK (Eq.symm (by rw [HF.out,hr.out,HS.out,hpx];simp)),bel hbr hb3⟩
     ·go_wp2_with fail;go_roundw
      case rel=>exact ⟨k + 1,by go_num,by omega,by show _=_;rw [hr.out,HS.out,hpx];rfl,bel hbr hb3⟩
      case measure=>simp [intOf];omega
    ·have hd:r.drop k=[]:=dF (by rw [<-hq.1];omega);have HD:=zC hd;clear hd;go_wp2_with fail;go_ret;exact ⟨aK (Eq.symm (by rw [HF.out,hr.out,HD.out];rfl)),hbr⟩
namespace T
def few (s:S) (r:List Q) (most:Nat):Bool:=!((r.take (most + 1)).any λq=>decide (10 < q.n)) && (decide (s.n<=6) && decide (r.length<=most))
end T
theorem T.agq {r:List Q} {m k:Nat} {q:Q} (hk:k < m) (h:r[k]? = some q) (p:Q->Bool):((r.take m).drop k).any p=(p q || ((r.take m).drop (k + 1)).any p):=by
 have h':(r.take m)[k]? = some q:=by rw [List.getElem?_take,if_pos hk];exact h
 obtain ⟨hk,e⟩:=zE.1 h';rw [jE hk,e];rfl
theorem yU (s:S) (B:aj) (m d:Nat) (r:List Q) (most:Nat) (w:World) (hq:dm w B m r) (hmo:most<=1000) :
  ay 64 #[fG s,.slice B m d,.int .i64 most] w (bg w (T.few s r most)):=by
 go_enter Tryz.func64,Tryz.ntmps64;go_wp2_with fail;go_loopw [7] (λvi wr=>∃ k:Nat,vi=.int .i64 k/\k<=m/\k<=most + 1/\Hid (T.few s r most=(!(((r.take (most + 1)).drop k).any λq=>decide (10 < q.n)) && (decide (s.n<=6) && decide (r.length<=most))))/\(w.alloc (.cells #[.int .i64 s.day,.int .i64 s.ax,.int .i64 s.start,.int .i64 s.end_,.int .i64 s.aU,.slice s.A s.n s.c] 63))=wr) (λvi _=>m - (intOf vi).toNat)
 case atStart=>exact ⟨0,rfl,by omega,by omega,by show _=_;rfl,rfl⟩
 case round =>
  obtain ⟨k,rfl,hk,hk2,hr,rfl⟩:=hrel;have hbr:af w (w.alloc (.cells #[.int .i64 s.day,.int .i64 s.ax,.int .i64 s.start,.int .i64 s.end_,.int .i64 s.aU,.slice s.A s.n s.c] 63)):=ai.alloc (zG _) _;by_cases hlt:k < m
  ·by_cases hlm:k<=most
   ·obtain ⟨ad,q,rfl,hg,hwq,c0,c1,c2,c3,c4,c5,c6⟩:=(hq.below hbr).at_ hlt;have HS:=zC (T.agq (show k < most + 1 by omega) hg λq=>decide (10 < q.n));clear hg;cases h10:decide ((10:Int) < q.n)
    ·have HN:=zC (show decide (10 < q.n)=false by simp at h10 ⊢;omega);go_wp2_with fail;go_roundw
     case rel=>exact ⟨k + 1,by go_num,by omega,by omega,by show _=_;rw [hr.out,HS.out,HN.out];rfl,trivial⟩
     case measure=>simp [intOf];omega
    ·have HN:=zC (show decide (10 < q.n)=true by simp at h10 ⊢;omega);go_wp2_with fail;go_ret;exact ⟨aK (Eq.symm (by rw [hr.out,HS.out,HN.out];rfl)),hbr⟩
   ·have hd:(r.take (most + 1)).drop k=[]:=dF (by rw [List.length_take];omega);have HD:=zC (show T.few s r most=false by rw [hr.out,hd,<-hq.1];simp;omega);clear hd;have q1:decide ((k:Int)<=most)=false:=by simpa using hlm
    have q2:decide ((m:Int)<=most)=false:=by simp;omega
    cases h6:decide ((s.n:Int)<=6)
    ·go_wp2_with fail;go_ret;exact ⟨aK HD.out.symm,hbr⟩
    ·have HF:=zC (show T.few s r most=decide (m<=most) by rw [HD.out];simp;omega);go_wp2_with fail;go_ret;exact ⟨aK HF.out.symm,hbr⟩
  ·have hd:(r.take (most + 1)).drop k=[]:=dF (by rw [List.length_take,<-hq.1];omega);have HD:=zC (show T.few s r most=(decide (s.n<=6) && decide (r.length<=most)) by rw [hr.out,hd];rfl);clear hd;cases h6:decide ((s.n:Int)<=6)
   ·have HF:=zC (show T.few s r most=false by rw [HD.out];simp at h6 ⊢;omega);go_wp2_with fail;go_ret;exact ⟨aK HF.out.symm,hbr⟩
   ·have HF:=zC (show T.few s r most=decide (m<=most) by rw [HD.out,<-hq.1];simp at h6 ⊢;omega);go_wp2_with fail;go_ret;exact ⟨aK HF.out.symm,hbr⟩
namespace T
def vP (r:List Q) (j i:Int):Int:=match r[i.toNat]? with
 | some q=>if q.room=j then q.a_ else 0
 | none=>0
def room (r:List Q) (j:Int):List Int->Int
 | []=>0
 | i :: l=>vP r j i + room r j l
def loads (r:List Q) (l:ag):List Int:=[room r 0 l,room r 1 l,room r 2 l]
end T
theorem T.akO (r:List Q) (j:Int) (a b:ag):T.room r j (a ++ b)=T.room r j a + T.room r j b:=by
 induction a with
 | nil=>simp [T.room]
 | cons x a ih=>simp [T.room,ih];omega
theorem T.ET {r:List Q} {j:Int} {l:ag} {k:Nat} {x:Int} (h:l[k]? = some x):T.room r j (l.take (k + 1))=T.room r j (l.take k) + T.vP r j x:=by
 obtain ⟨hk,e⟩:=zE.1 h;rw [sV hk,e,T.akO];simp [T.room]
theorem T.lS {n lo hi:Int}:T.aT n lo hi=true ↔ lo<=n/\n<=hi:=by simp [T.aT]
theorem T.Vs {q:Q} (h:T.right q=true):(q.room=0\/q.room=1\/q.room=2)/\1<=q.a_/\q.a_<=1000000:=by
 simp [T.right,T.aT] at h;omega
def T.wR (r:List Q):Prop:=∀ q ∈ r,T.right q=true
theorem T.aa5 {r:List Q} (h:T.wR r) (j i:Int):0<=T.vP r j i/\T.vP r j i<=1000000:=by
 unfold T.vP;cases hq:r[i.toNat]? with
 | none=>simp
 | some q =>
  have:=(T.Vs (h q (zD hq))).2;simp only;split <;> omega
theorem T.Oh {r:List Q} (h:T.wR r) (j:Int) (l:ag):0<=T.room r j l/\T.room r j l<=1000000 * l.length:=by
 induction l with
 | nil=>simp [T.room]
 | cons x l ih =>
  have:=T.aa5 h j x;simp only [T.room,dQ];omega
theorem T.aa6 {r:List Q} {i:Int} {q:Q} (h:r[i.toNat]? = some q) (j:Int):T.vP r j i=if q.room=j then q.a_ else 0:=by
 unfold T.vP;rw [h]
theorem T.EN {n:Int} {b l:ag} (h:T.qJ n b l=true):∀ x ∈ l,0<=x/\x < n:=by
 induction l generalizing b with
 | nil=>intro x hx;simp at hx
 | cons y l ih =>
  simp [T.qJ] at h;intro x hx;rcases dw.1 hx with rfl | hx
  ·exact ⟨h.1,h.2.1⟩
  ·exact ih h.2.2.2 x hx
theorem T.mO {s:S} {r:List Q} {l:ag} (h:T.load s r l=true):T.check s=0/\T.isSet r.length l=true/\T.wR r:=by
 simp [T.load] at h;exact ⟨h.1,h.2.1,h.2.2⟩
theorem T.aiL {s:S} {r:List Q} {l:ag} (h1:T.check s=0) (h2:T.isSet r.length l=true) (h3:T.wR r):T.load s r l=true:=by
 simp [T.load,h1,h2];exact h3
def Three (w:World) (B:Nat) (x y z:Int):Prop:=w.heap[B]? = some (.cells #[.int .i64 x,.int .i64 y,.int .i64 z] 3 (0,0))
theorem Three.below {w w':World} {B:Nat} {x y z:Int} (h:Three w B x y z) (hb:af w w'):Three w' B x y z:=au hb h
theorem Three.lt {w:World} {B:Nat} {x y z:Int} (h:Three w B x y z):B < w.heap.size:=lt_of_block h
theorem Three.c0 {w:World} {B:Nat} {x y z:Int} (h:Three w B x y z):w.cell? ⟨B,0,none⟩=some (.int .i64 x):=ah h 0 _ rfl
theorem Three.c1 {w:World} {B:Nat} {x y z:Int} (h:Three w B x y z):w.cell? ⟨B,1,none⟩=some (.int .i64 y):=ah h 1 _ rfl
theorem Three.c2 {w:World} {B:Nat} {x y z:Int} (h:Three w B x y z):w.cell? ⟨B,2,none⟩=some (.int .i64 z):=ah h 2 _ rfl
theorem Three.free {w:World} {B:Nat} {x y z:Int} (h:Three w B x y z) (i:Nat):w.frozen? ⟨B,i,none⟩=false:=by
 unfold Three at h;simp [World.frozen?,h]
theorem Three.set {w:World} {B:Nat} {x y z:Int} (h:Three w B x y z) (i:Nat) (v:Value):(w.setCell ⟨B,i,none⟩ v).heap[B]? = some (.cells (#[Value.int .i64 x,.int .i64 y,.int .i64 z].setIfInBounds i v) 3 (0,0)):=by
 have hlt:=h.lt;have h':w.heap[B] = .cells #[.int .i64 x,.int .i64 y,.int .i64 z] 3 (0,0):=by simpa [Three,Array.getElem?_eq_getElem hlt] using h
 show (w.heap.modify B _)[B]? = _;rw [Array.getElem?_eq_getElem (by simpa using hlt),Array.getElem_modify_self,h'];rfl
theorem Three.set0 {w:World} {B:Nat} {x y z:Int} (h:Three w B x y z) (u:Int):Three (w.setCell ⟨B,0,none⟩ (.int .i64 u)) B u y z:=h.set 0 _
theorem Three.set1 {w:World} {B:Nat} {x y z:Int} (h:Three w B x y z) (u:Int):Three (w.setCell ⟨B,1,none⟩ (.int .i64 u)) B x u z:=h.set 1 _
theorem Three.set2 {w:World} {B:Nat} {x y z:Int} (h:Three w B x y z) (u:Int):Three (w.setCell ⟨B,2,none⟩ (.int .i64 u)) B x y u:=h.set 2 _
theorem Three.ints {w:World} {B:Nat} {x y z:Int} (h:Three w B x y z):Ints w (some ⟨B,0,none⟩) 3 [x,y,z]:=⟨rfl,Rd.of_block h 1 3 rfl⟩
theorem abB (w:World):(Instr.makeSlice 48 (.int .i64 3) (.int .i64 3)).run Tryz.prog w=.ok (.slice (some ⟨w.heap.size,0,none⟩) 3 3) (w.alloc (.cells #[.int .i64 0,.int .i64 0,.int .i64 0] 3)) :=
 by
 have h:=run_make_row' (P:=Tryz.prog) 48 3 (.int .i64 0) 8 Tryz.underlying48 Tryz.info3 rfl .i64 .i64 3 (by omega) (by omega) w;rw [show madeCells #[Value.int .i64 0] 3=#[.int .i64 0,.int .i64 0,.int .i64 0] from Array.ext (by simp [madeCells]) (λi h1 h2=>by simp [madeCells] at h1 ⊢;rcases i with _ | _ | _ | i <;> first | rfl | omega)] at h;exact h
theorem akJ (s:S) (B:aj) (m d:Nat) (r:List Q) (A:aj) (n c:Nat) (l:ag) (w:World) (hs:Ints w s.A s.n s.l) (hsn:s.n<=1000000000) (hq:dm w B m r) (hm:m<=1000000000) (fU:∀ q ∈ r,q.n<=1000000000) (hl:Ints w A n l) (hn:n<=1000000000) (hok:T.load s r l=true) :
  ay 194 #[fG s,.slice B m d,.slice A n c] w λe w'=>∃ g,e=.returned (.slice (some ⟨g,0,none⟩) 3 3)/\w.heap.size<=g/\Three w' g (T.room r 0 l) (T.room r 1 l) (T.room r 2 l)/\af w w':=by
 have hmk:=abB;obtain ⟨_,hset,hright⟩:=T.mO hok;have b0:=(dK w).alloc (zG _) (.cells #[.int .i64 s.day,.int .i64 s.ax,.int .i64 s.start,.int .i64 s.end_,.int .i64 s.aU,.slice s.A s.n s.c] 63);go_enter Tryz.func194,Tryz.ntmps194;go_wp2_with fail;refine (UM s B m d r A n c l _ (hs.below b0) hsn (hq.below b0) hm fU (hl.below b0) hn).mono ?_;rw [hok];rintro e w1 ⟨rfl,hb1'⟩;have hb1:=bel b0 hb1';clear hb1' b0;go_wp2_with fail;go_loopw [8] (λvi wr=>∃ k:Nat,vi=.int .i64 k/\k<=n/\Three wr w1.heap.size (T.room r 0 (l.take k)) (T.room r 1 (l.take k)) (T.room r 2 (l.take k))/\af w wr) (λvi _=>n - (intOf vi).toNat)
 case atStart=>exact ⟨0,rfl,by omega,(MapKept.heap_alloc w1 _).1,hb1.alloc hb1.size _⟩
 case round =>
  obtain ⟨k,rfl,hk,hT,hbr⟩:=hrel;by_cases hlt:k < n
  ·obtain ⟨adl,x,rfl,hg,c0⟩:=(hl.below hbr).at_ hlt;obtain ⟨hx0,hxm⟩:=T.EN hset x (zD hg);obtain ⟨i,rfl⟩:∃ i:Nat,x=i:=⟨x.toNat,by omega⟩;have him:i < m:=by rw [hq.1];omega
   obtain ⟨ad,q,rfl,hgq,hwq,e0,e1,e2,e3,e4,e5,e6⟩:=(hq.below hbr).at_ him;have R0:=zC (T.ET (r:=r) (j:=0) hg);have R1:=zC (T.ET (r:=r) (j:=1) hg);have R2:=zC (T.ET (r:=r) (j:=2) hg);obtain ⟨hroom,hk1,hk2⟩:=T.Vs (hright q (zD hgq));have K0:=zC (T.aa6 (r:=r) (i:=i) (q:=q) (by simpa using hgq));have bd:=λj=>T.Oh hright j (l.take k);obtain ⟨bx,bX⟩:=bd 0;obtain ⟨aP,bY⟩:=bd 1;obtain ⟨bz,bZ⟩:=bd 2;clear bd;rw [List.length_take,<-hl.1,Nat.min_eq_left hk] at bX bY bZ;obtain ⟨x,hX⟩:=zB (T.room r 0 (l.take k));obtain ⟨y,hY⟩:=zB (T.room r 1 (l.take k));obtain ⟨z,hZ⟩:=zB (T.room r 2 (l.take k));rw [<-hX,<-hY,<-hZ] at hT;rw [<-hX] at R0 bx bX;rw [<-hY] at R1 aP bY;rw [<-hZ] at R2 bz bZ;clear hX hY hZ hg hgq hx0 hxm hset hright;obtain ⟨no,ro,ki,se,fr,X5,QA,qn,qc,ql⟩:=q;simp only at *;have hT':=hT.below (ai.alloc (zG _) (.cells #[.int .i64 no,.int .i64 ro,.int .i64 ki,.int .i64 se,.int .i64 fr,.int .i64 X5,.slice QA qn qc] 47));have d0:=hT'.c0;have d1:=hT'.c1;have d2:=hT'.c2;have f0:=hT'.free;rcases hroom with rfl | rfl | rfl
   ·go_wp2_with fail;go_region
    go_wp2_with fail;go_roundw
    case rel =>
     refine ⟨k + 1,by go_num,by omega,?_,?_⟩
     ·rw [R0.out,R1.out,R2.out,K0.out,K0.out,K0.out];have hn:=hT'.set0 (x + ki);simp only [reduceIte,Int.add_zero,Int.reduceEq];exact hn
     ·exact (((hbr.alloc hbr.size _).setCell (by exact hb1.size) _).drew)
    case measure=>simp [intOf];omega
   ·go_wp2_with fail;go_region
    go_wp2_with fail;go_roundw
    case rel =>
     refine ⟨k + 1,by go_num,by omega,?_,?_⟩
     ·rw [R0.out,R1.out,R2.out,K0.out,K0.out,K0.out];have hn:=hT'.set1 (y + ki);simp only [reduceIte,Int.add_zero,Int.reduceEq];exact hn
     ·exact (((hbr.alloc hbr.size _).setCell (by exact hb1.size) _).drew)
    case measure=>simp [intOf];omega
   ·go_wp2_with fail;go_region
    go_wp2_with fail;go_roundw
    case rel =>
     refine ⟨k + 1,by go_num,by omega,?_,?_⟩
     ·rw [R0.out,R1.out,R2.out,K0.out,K0.out,K0.out];have hn:=hT'.set2 (z + ki);simp only [reduceIte,Int.add_zero,Int.reduceEq];exact hn
     ·exact (((hbr.alloc hbr.size _).setCell (by exact hb1.size) _).drew)
    case measure=>simp [intOf];omega
  ·have e:l.take k=l:=fD (by rw [<-hl.1];omega);rw [e] at hT;clear e;go_wp2_with fail;go_ret;exact ⟨_,rfl,hb1.size,hT,hbr⟩
theorem akI (s:S) (B:aj) (m d:Nat) (r:List Q) (A:aj) (n c:Nat) (l:ag) (w:World) (hs:Ints w s.A s.n s.l) (hsn:s.n<=1000000000) (hq:dm w B m r) (hm:m<=1000000000) (fU:∀ q ∈ r,q.n<=1000000000) (hl:Ints w A n l) (hn:n<=1000000000) (hok:T.load s r l=false) :
  ay 194 #[fG s,.slice B m d,.slice A n c] w λe w'=>e=.returned (.slice none 0 0)/\af w w':=by
 have b0:=(dK w).alloc (zG _) (.cells #[.int .i64 s.day,.int .i64 s.ax,.int .i64 s.start,.int .i64 s.end_,.int .i64 s.aU,.slice s.A s.n s.c] 63);go_enter Tryz.func194,Tryz.ntmps194;go_wp2_with fail;refine (UM s B m d r A n c l _ (hs.below b0) hsn (hq.below b0) hm fU (hl.below b0) hn).mono ?_;rw [hok];rintro e w1 ⟨rfl,hb1⟩;go_wp2_with fail;go_ret;exact ⟨rfl,bel b0 hb1⟩
end Go.Proofs.YtippdjmpkafifaaGreat
namespace Go
open Go.Maps (Keyed)
theorem aj1 {H:Type} {P:Program} {e:TypeId} (he:P.underlying e=some .bool) {v:Value} {z:DataW H × List MemPlace} (h:plainElem P e v=some z):∃ x,v=.bool x/\z=(.lit (.bool x),[]):=by
 unfold plainElem at h;rw [he] at h;cases v <;> simp at h
 subst h;exact ⟨_,rfl,rfl⟩
theorem World.ownsMap.aiT {H:Type} {P:Program} {w:World} {k t e:TypeId} {b n:Nat} {D:DataW H} (h:w.ownsMap P k (plainElem P e) b n D) (K:Keyed P k) (ht:P.underlying t=some (.map k e)) (he:P.underlying e=some .bool) (hz:(zeroValue e).run P w=.ok (.bool false) w)
  {key:Value} {kl:Lit} (hkey:keyOf P k key=some kl):∃ c,(Instr.lookup t (.map (some b)) key false).run P w=.ok (.bool c) w/\D.atKey kl (.lit (.bool false))=.lit (.bool c):=by
 obtain ⟨v,ps,hrun,hv⟩:=h.lookup K ht hz (plainElem_bool he false) hkey;obtain ⟨c,rfl,hc⟩:=aj1 he hv;simp only [Prod.mk.injEq] at hc;exact ⟨c,hrun,hc.1⟩
end Go
namespace Go.Proofs.YtippdjmpkafifaaGreat
open Go.RowKit
section
open Go.RowKit Go.Maps
def seen (l:ag):DataW Unit:=setOf (.lit (.bool true)) (l.map (Lit.int .i64))
theorem alA:seen [] = .map []:=rfl
theorem adM (l:ag) (x:Int):seen (l ++ [x])=(seen l).put (.int .i64 x) (.lit (.bool true)):=by
 unfold seen;rw [eG,List.map_singleton,setOf_snoc]
theorem ae9 (x:Int):∀ (l:ag) (m:DataW Unit),IsMap m->((l.map (Lit.int .i64)).foldl (λm x=>m.put x (.lit (.bool true))) m).atKey (.int .i64 x) (.lit (.bool false))=if l.any (· == x) then .lit (.bool true) else m.atKey (.int .i64 x) (.lit (.bool false)):=by
 intro l;induction l with
 | nil=>intro m _;rfl
 | cons y l ih =>
  intro m hm;rw [List.map_cons,List.foldl_cons,ih _ (hm.put _ _),List.any_cons];by_cases hy:y=x
  ·subst hy;rw [atKey_put_same hm (by trivial)];simp
  ·rw [atKey_put_other (by intro e;injection e with _ e;exact hy e.symm),show (y == x)=false by simpa using hy,Bool.false_or]
theorem aly (l:ag) (x:Int):(seen l).atKey (.int .i64 x) (.lit (.bool false))=.lit (.bool (l.any (· == x))):=by
 unfold seen setOf;rw [ae9 x l _ isMap_empty];cases l.any (· == x) <;> rfl
theorem law3:Keyed Tryz.prog 3:=int_keyed Tryz.underlying3
theorem am3 (w:World):(zeroValue 4).run Tryz.prog w=.ok (.bool false) w:=by kernel_rfl
def Seen (w:World) (b n:Nat) (l:ag):Prop:=w.ownsMap Tryz.prog 3 (plainElem Tryz.prog 4) b n (seen l)
theorem Seen.look {w:World} {b n:Nat} {l:ag} (h:Seen w b n l) (x:Int) (hx:(Lit.int .i64 x).wf=true):(Instr.lookup 120 (.map (some b)) (.int .i64 x) false).run Tryz.prog w=.ok (.bool (l.any (· == x))) w:=by
 obtain ⟨c,hr,hat⟩:=World.ownsMap.aiT (t:=120) h law3 Tryz.underlying120 Tryz.underlying4 (am3 w) (keyOf_int_mk Tryz.underlying3 hx);rw [aly] at hat;injection hat with hat;injection hat with hat;rw [hr,hat]
theorem Seen.below {w w':World} {b n:Nat} {l:ag} (h:Seen w b n l) (hb:af w w'):Seen w' b n l:=h.kept (row:=none) ⟨hb.os,hb.tape,hb.output,hb.size,λi hi _=>hb.block i hi⟩ (by simp)
theorem Seen.set {w:World} {b n:Nat} {l:ag} (h:Seen w b n l) {a:Addr} (ha:b ≠ a.block) (u:Value):Seen (w.setCell a u) b n l:=h.setCell ha u
end
section
open Go.RowKit Go.Maps
theorem abu (s:S) (B:aj) (m d:Nat) (r:List Q) (A:aj) (n c:Nat) (l:ag) (w:World) (hs:Ints w s.A s.n s.l) (hsn:s.n<=1000000000) (hq:dm w B m r) (hm:m<=1000000000) (fU:∀ q ∈ r,q.n<=1000000000) (hl:Ints w A n l) (hn:n<=1000000000) :
  ay 169 #[fG s,.slice B m d,.slice A n c] w λe w'=>af w w'/\((T.load s r l=true/\∃ g,e=.returned (.slice (some ⟨g,0,none⟩) 3 3)/\w.heap.size<=g/\Three w' g (T.room r 0 l) (T.room r 1 l) (T.room r 2 l))\/(T.load s r l=false/\e=.returned (.slice none 0 0))):=by
 have hmk:=abB;have hmm:=@run_makeMap Tryz.prog;have b0:=(dK w).alloc (zG _) (.cells #[.int .i64 s.day,.int .i64 s.ax,.int .i64 s.start,.int .i64 s.end_,.int .i64 s.aU,.slice s.A s.n s.c] 63);cases h1:(T.check s == 0)
 ·have HF:=zC (show T.load s r l=false by simp [T.load,h1]);have q1:(T.check s != 0)=true:=by simp [bne,h1]
  clear h1;go_enter Tryz.func169,Tryz.ntmps169;go_wp2_with fail;refine (check_any s _ (hs.below b0) hsn).mono ?_;rintro e w1 ⟨rfl,hb1'⟩;have hb1:=bel b0 hb1';clear hb1';go_wp2_with fail;go_ret;exact ⟨hb1,.inr ⟨HF.out,rfl⟩⟩
 ·have q1:(T.check s != 0)=false:=by simp [bne,h1]
  cases h2:(r.any λq=>!T.right q)
  ·have HF:=zC (show T.load s r l=T.isSet r.length l by simp only [T.load];rw [h1,h2];simp);have HR:=zC (show T.wR r from λq hq=>by
    have:=List.any_eq_false.1 h2 q hq;simpa using this)
   have H2:=zC h2;clear h2;go_enter Tryz.func169,Tryz.ntmps169;go_wp2_with fail;refine (check_any s _ (hs.below b0) hsn).mono ?_;rintro e w1 ⟨rfl,hb1'⟩;have hb1:=bel b0 hb1';clear hb1' b0;go_wp2_with fail;refine (containsQ B m d r _ (hq.below hb1) hm fU).mono ?_;rw [H2.out];rintro e w2 ⟨rfl,hb2'⟩;have hb2:=bel hb1 hb2';clear hb2' hb1;go_wp2_with fail;have SL:=aF w2 (.cells #[.int .i64 0,.int .i64 0,.int .i64 0] 3);go_loopw [22] (λvi wr=>∃ k:Nat,vi=.int .i64 k/\k<=n/\Hid (T.isSet r.length l=T.qJ r.length (l.take k) (l.drop k))/\Three wr w2.heap.size (T.room r 0 (l.take k)) (T.room r 1 (l.take k)) (T.room r 2 (l.take k))/\Seen wr (w2.heap.size + 1) k (l.take k)/\af w wr) (λvi _=>n - (intOf vi).toNat)
   case atStart =>
    refine ⟨0,rfl,by omega,by show _=_;rfl,?_,?_,?_⟩
    ·exact Three.below (w:=w2.alloc _) (MapKept.heap_alloc w2 _).1 (ai.alloc (zG _) _)
    ·have hm0:=World.ownsMap_made (w2.alloc (.cells #[.int .i64 0,.int .i64 0,.int .i64 0] 3)) Tryz.prog 3 (plainElem (H:=Unit) Tryz.prog 4);rw [SL] at hm0;exact hm0
    ·exact (hb2.alloc hb2.size _).alloc (by rw [SL];have:=hb2.size;omega) _
   case round =>
    obtain ⟨k,rfl,hk,hr,hT,hS,hbr⟩:=hrel;by_cases hlt:k < n
    ·obtain ⟨adl,x,rfl,hg,c0⟩:=(hl.below hbr).at_ hlt;have HS:=zC (T.aa4 (n:=r.length) hg);cases hbt:T.aT x 0 (m - 1)
     ·have HX:=zC (show T.load s r l=false by
       have e1:(m:Int) - 1 < r.length:=by rw [hq.1];omega
       rw [HF.out,hr.out,HS.out];simp [T.aT] at hbt;by_cases h0:0<=x
       ·have:=hbt h0;have h9:¬ x < (r.length:Int):=by rw [<-hq.1];omega
        simp [h9]
       ·simp [h0])
      go_wp2_with fail;refine (fF _ _ _ _).mono ?_;rw [hbt];rintro e w3 ⟨rfl,rfl⟩;go_wp2_with fail;go_ret;exact ⟨hbr,.inr ⟨HX.out,rfl⟩⟩
     ·obtain ⟨hx0,hxm⟩:=T.lS.1 hbt;obtain ⟨i,rfl⟩:∃ i:Nat,x=i:=⟨x.toNat,by omega⟩;have him:i < m:=by omega
      have hwf:(Lit.int .i64 (i:Int)).wf=true:=WalkArith.wf_i64 (by omega);have LK:=hS.look i hwf;cases hany:(l.take k).any (· == (i:Int))
      ·rw [hany] at LK;have HX:=zC (show T.isSet r.length l=T.qJ r.length (l.take (k + 1)) (l.drop (k + 1)) by
        have h9:(i:Int) < r.length:=by rw [<-hq.1];omega
        rw [hr.out,HS.out,hany];simp [h9])
       have HG:=zC hg;clear hg hany hr HS;go_wp2_with fail;refine (fF _ _ _ _).mono ?_;rw [hbt];rintro e w3 ⟨rfl,rfl⟩;go_wp2_with (first
        | (at_mapUpdate;refine wpList_mapUpdate_own _ rfl _ _ _ 120 rfl 3 4 law3 Tryz.underlying120 _ (w2.heap.size + 1) k _ rfl hS (by unfold maxLen;omega) _ _ _ rfl rfl (keyOf_int_mk Tryz.underlying3 hwf) _ [] (plainElem_bool Tryz.underlying4 true) ?_;intro w5 hown5 Ep)
        | fail)
       have hb5:af w w5:=hbr.grown Ep hbr.size (λj e=>by injection e with e;have:=hb2.size;omega);have fM:Three w5 w2.heap.size (T.room r 0 (l.take k)) (T.room r 1 (l.take k)) (T.room r 2 (l.take k)):=iV Ep hT (by simp);have hS5:Seen w5 (w2.heap.size + 1) (k + 1) (l.take (k + 1)):=by
        obtain ⟨hk',e⟩:=zE.1 HG.out;rw [Seen,sV hk',e,adM];exact hown5
       obtain ⟨ad,q,rfl,hgq,hwq,e0,e1,e2,e3,e4,e5,e6⟩:=(hq.below hb5).at_ him;have R0:=zC (T.ET (r:=r) (j:=0) HG.out);have R1:=zC (T.ET (r:=r) (j:=1) HG.out);have R2:=zC (T.ET (r:=r) (j:=2) HG.out);obtain ⟨hroom,hk1,hk2⟩:=T.Vs (HR.out q (zD hgq));have K0:=zC (T.aa6 (r:=r) (i:=i) (q:=q) (by simpa using hgq));have bd:=λj=>T.Oh HR.out j (l.take k);obtain ⟨bx,bX⟩:=bd 0;obtain ⟨aP,bY⟩:=bd 1;obtain ⟨bz,bZ⟩:=bd 2;clear bd Ep hown5 LK hT hS hbt hx0 hxm c0;rw [List.length_take,<-hl.1,Nat.min_eq_left hk] at bX bY bZ;obtain ⟨x,hX⟩:=zB (T.room r 0 (l.take k));obtain ⟨y,hY⟩:=zB (T.room r 1 (l.take k));obtain ⟨z,hZ⟩:=zB (T.room r 2 (l.take k));rw [<-hX,<-hY,<-hZ] at fM;rw [<-hX] at R0 bx bX;rw [<-hY] at R1 aP bY;rw [<-hZ] at R2 bz bZ;clear hX hY hZ hgq;obtain ⟨no,ro,ki,se,fr,X5,QA,qn,qc,ql⟩:=q;simp only at hroom hk1 hk2 e0 e1 e2 e3 e4 e5 e6 K0;have d0:=fM.c0;have d1:=fM.c1;have d2:=fM.c2;have f0:=fM.free;rcases hroom with rfl | rfl | rfl
       ·go_region
        all_goals
         go_wp2_with fail;go_roundw
         case rel =>
          refine ⟨k + 1,by go_num,by omega,HX.out,?_,?_,?_⟩
          ·rw [R0.out,R1.out,R2.out,K0.out,K0.out,K0.out];have hn:=fM.set0 (x + ki);simp only [reduceIte,Int.add_zero,Int.reduceEq];exact hn
          ·exact hS5.set (by simp) _
          ·exact ((hb5.setCell (by exact hb2.size) _).drew)
         case measure=>simp [intOf];omega
       ·go_region
        all_goals
         go_wp2_with fail;go_roundw
         case rel =>
          refine ⟨k + 1,by go_num,by omega,HX.out,?_,?_,?_⟩
          ·rw [R0.out,R1.out,R2.out,K0.out,K0.out,K0.out];have hn:=fM.set1 (y + ki);simp only [reduceIte,Int.add_zero,Int.reduceEq];exact hn
          ·exact hS5.set (by simp) _
          ·exact ((hb5.setCell (by exact hb2.size) _).drew)
         case measure=>simp [intOf];omega
       ·go_region
        all_goals
         go_wp2_with fail;go_roundw
         case rel =>
          refine ⟨k + 1,by go_num,by omega,HX.out,?_,?_,?_⟩
          ·rw [R0.out,R1.out,R2.out,K0.out,K0.out,K0.out];have hn:=fM.set2 (z + ki);simp only [reduceIte,Int.add_zero,Int.reduceEq];exact hn
          ·exact hS5.set (by simp) _
          ·exact ((hb5.setCell (by exact hb2.size) _).drew)
         case measure=>simp [intOf];omega
      ·rw [hany] at LK;have HX:=zC (show T.load s r l=false by
        rw [HF.out,hr.out,HS.out,hany];simp)
       clear hg hany hr HS;go_wp2_with fail;refine (fF _ _ _ _).mono ?_;rw [hbt];rintro e w3 ⟨rfl,rfl⟩;go_wp2_with fail;go_ret;exact ⟨hbr,.inr ⟨HX.out,rfl⟩⟩
    ·have e:l.take k=l:=fD (by rw [<-hl.1];omega);have hd:l.drop k=[]:=dF (by rw [<-hl.1];omega);have HX:=zC (show T.load s r l=true by rw [HF.out,hr.out,hd];rfl);rw [e] at hT;clear e hd;go_wp2_with fail;go_ret;exact ⟨hbr,.inl ⟨HX.out,_,rfl,hb2.size,hT⟩⟩
  ·have HF:=zC (show T.load s r l=false by simp only [T.load];rw [h2];simp);have H2:=zC h2;clear h2;go_enter Tryz.func169,Tryz.ntmps169;go_wp2_with fail;refine (check_any s _ (hs.below b0) hsn).mono ?_;rintro e w1 ⟨rfl,hb1'⟩;have hb1:=bel b0 hb1';clear hb1';go_wp2_with fail;refine (containsQ B m d r _ (hq.below hb1) hm fU).mono ?_;rw [H2.out];rintro e w2 ⟨rfl,hb2⟩;go_wp2_with fail;go_ret;exact ⟨bel hb1 hb2,.inr ⟨HF.out,rfl⟩⟩
end
namespace T
def qx (gW:ag):Nat->List Int->Bool
 | _,[]=>true
 | i,x :: l=>decide (x<=(gW[i]?).getD 0) && qx gW (i + 1) l
def fits (s:S) (r:List Q) (l:ag):Bool:=load s r l && qx s.l 0 (loads r l)
def sum:List Int->Int
 | []=>0
 | x :: l=>x + sum l
def weight (s:S) (r:List Q) (l:ag):Int:=if load s r l then s.aU + sum (loads r l) else -1
end T
theorem T.fit_drop {gW l:ag} {k:Nat} {x:Int} (h:l[k]? = some x):T.qx gW k (l.drop k)=(decide (x<=(gW[k]?).getD 0) && T.qx gW (k + 1) (l.drop (k + 1))):=by
 obtain ⟨hk,e⟩:=zE.1 h;rw [jE hk,e];rfl
theorem T.ad8 {l:ag} {k:Nat} {x:Int} (h:l[k]? = some x):T.sum (l.take (k + 1))=T.sum (l.take k) + x:=by
 obtain ⟨hk,e⟩:=zE.1 h;rw [sV hk,e];have:∀ (a:ag) (y:Int),T.sum (a ++ [y])=T.sum a + y:=by
  intro a y;induction a with
  | nil=>simp [T.sum]
  | cons z a ih=>simp [T.sum,ih];omega
 exact this _ _
def bI (w:World) (b:Nat) (s:S):Prop:=w.heap[b]? = some (.cells #[.int .i64 s.day,.int .i64 s.ax,.int .i64 s.start,.int .i64 s.end_,.int .i64 s.aU,.slice s.A s.n s.c] 63 (0,0))
theorem bI.new (w:World) (s:S):bI (w.alloc (.cells #[.int .i64 s.day,.int .i64 s.ax,.int .i64 s.start,.int .i64 s.end_,.int .i64 s.aU,.slice s.A s.n s.c] 63)) w.heap.size s:=(MapKept.heap_alloc w _).1
theorem bI.below {w w':World} {b:Nat} {s:S} (h:bI w b s) (hb:af w w'):bI w' b s:=au hb h
theorem bI.c4 {w:World} {b:Nat} {s:S} (h:bI w b s):w.cell? ⟨b,4,none⟩=some (.int .i64 s.aU):=ah h 4 _ rfl
theorem bI.c5 {w:World} {b:Nat} {s:S} (h:bI w b s):w.cell? ⟨b,5,none⟩=some (.slice s.A s.n s.c):=ah h 5 _ rfl
theorem bI.free {w:World} {b:Nat} {s:S} (h:bI w b s) (i:Nat):w.frozen? ⟨b,i,none⟩=false:=by
 unfold bI at h;simp [World.frozen?,h]
theorem bI.alE {w:World} {b:Nat} {s:S} (h:bI w b s) (u:Int):bI (w.setCell ⟨b,4,none⟩ (.int .i64 u)) b { s with aU:=u }:=by
 have hlt:=lt_of_block h;have h':w.heap[b] = .cells #[.int .i64 s.day,.int .i64 s.ax,.int .i64 s.start,.int .i64 s.end_,.int .i64 s.aU,.slice s.A s.n s.c] 63 (0,0):=by simpa [bI,Array.getElem?_eq_getElem hlt] using h
 show (w.heap.modify b _)[b]? = _;rw [Array.getElem?_eq_getElem (by simpa using hlt),Array.getElem_modify_self,h'];rfl
theorem T.Nr {r:List Q} (h:T.wR r) {l:ag} {k:Nat} {x:Int} (hx:(T.loads r l)[k]? = some x):0<=x/\x<=1000000 * l.length:=by
 have b:=λj=>T.Oh h j l;have b0:=b 0;have b1:=b 1;have b2:=b 2;unfold T.loads at hx;rcases k with _ | _ | _ | k <;> simp at hx <;> subst hx <;> assumption
theorem T.DY {s:S} (h:T.check s=0):s.l.length<=3/\(0<=s.aU/\s.aU<=1000000)/\∀ x ∈ s.l,0<=x/\x<=1000000:=by
 unfold T.check at h;split at h
 ·simp at h
 split at h
 ·simp at h
 split at h
 ·simp at h
 split at h
 ·simp at h
 ·rename_i h1 h2 h3 h4
  have h5:∀ x ∈ s.aU :: s.l,T.aT x 0 1000000=true:=λx hx=>by
   have:=List.any_eq_false.1 (by simpa [T.heavy] using h4:(s.aU :: s.l).any (λx=>!T.aT x 0 1000000)=false) x hx;simpa using this
  refine ⟨by omega,T.lS.1 (h5 _ dJ),λx hx=>T.lS.1 (h5 _ (dN _ hx))⟩
section
open Go.RowKit Go.Maps
theorem fits_any (s:S) (B:aj) (m d:Nat) (r:List Q) (A:aj) (n c:Nat) (l:ag) (w:World) (hs:Ints w s.A s.n s.l) (hsn:s.n<=1000000000) (hq:dm w B m r) (hm:m<=1000000000) (fU:∀ q ∈ r,q.n<=1000000000) (hl:Ints w A n l) (hn:n<=1000000000) :
  ay 121 #[fG s,.slice B m d,.slice A n c] w (bg w (T.fits s r l)):=by
 obtain ⟨dy,dp,st,en,ta,SA,sn,sc,sl⟩:=s;simp only at hs hsn ⊢;have b0:=(dK w).alloc (zG _) (.cells #[.int .i64 dy,.int .i64 dp,.int .i64 st,.int .i64 en,.int .i64 ta,.slice SA sn sc] 63);go_enter Tryz.func121,Tryz.ntmps121;go_wp2_with fail;refine (abu ⟨dy,dp,st,en,ta,SA,sn,sc,sl⟩ B m d r A n c l _ (hs.below b0) hsn (hq.below b0) hm fU (hl.below b0) hn).mono ?_;rintro e w1 ⟨hb1,hok⟩;have hP:=(bI.new w ⟨dy,dp,st,en,ta,SA,sn,sc,sl⟩).below hb1;have hb:=bel b0 hb1;clear hb1;rcases hok with ⟨hok,g,rfl,hg,hT⟩ | ⟨hno,rfl⟩
 ·have HF:=zC (show T.fits ⟨dy,dp,st,en,ta,SA,sn,sc,sl⟩ r l=T.qx sl 0 (T.loads r l) by simp [T.fits,hok]);obtain ⟨hch,_,jU⟩:=T.mO hok;have HB:=zC (λk x=>T.Nr (k:=k) (x:=x) jU (l:=l));have HC:=zC (T.DY hch);have hI:Ints w1 (some ⟨g,0,none⟩) 3 (T.loads r l):=hT.ints;have hs1:=hs.below hb;obtain ⟨G,hG⟩:∃ G:Addr,G=⟨g,0,none⟩:=⟨_,rfl⟩;rw [<-hG] at hI ⊢;clear hG;clear hok hch jU hT b0;have p5:=hP.c5;go_wp2_with fail;go_loopw [16] (λvi wr=>∃ k:Nat,vi=.int .i64 k/\k<=3/\Hid (T.fits ⟨dy,dp,st,en,ta,SA,sn,sc,sl⟩ r l=T.qx sl k ((T.loads r l).drop k))/\w1=wr) (λvi _=>3 - (intOf vi).toNat)
  case atStart=>exact ⟨0,rfl,by omega,HF.out,rfl⟩
  case round =>
   obtain ⟨k,rfl,hk,hr,rfl⟩:=hrel;by_cases hlt:k < 3
   ·obtain ⟨ad,x,he,hx,c0⟩:=hI.at_ hlt;injection he with he;subst he;have HS:=zC (T.fit_drop (gW:=sl) hx);obtain ⟨hx0,hx1⟩:=HB.out k x hx;have hx2:x<=1000000 * 1000000000:=by rw [<-hl.1] at hx1;omega
    clear hx hx1;by_cases hx:0 < x
    ·by_cases hks:k < sn
     ·obtain ⟨lM,y,rfl,hy,c1⟩:=hs1.at_ hks;have hyb:=HC.out.2.2 y (zD hy);have HY:=zC (show (sl[k]?).getD 0=y by rw [hy];rfl);clear hy;by_cases hxy:y < x
      ·have HX:=zC (show T.fits ⟨dy,dp,st,en,ta,some lM,sn,sc,sl⟩ r l=false by
        rw [hr.out,HS.out,HY.out];simp;omega)
       clear HS hr HF;go_wp2_with fail;go_ret;exact ⟨aK HX.out.symm,hb⟩
      ·have HX:=zC (show T.fits ⟨dy,dp,st,en,ta,some lM,sn,sc,sl⟩ r l=T.qx sl (k + 1) ((T.loads r l).drop (k + 1)) by
        rw [hr.out,HS.out,HY.out];simp;omega)
       clear HS hr HF;go_wp2_with fail;go_roundw
       case rel=>exact ⟨k + 1,by go_num,by omega,HX.out,trivial⟩
       case measure=>simp [intOf];omega
     ·have HX:=zC (show T.fits ⟨dy,dp,st,en,ta,SA,sn,sc,sl⟩ r l=false by
       rw [hr.out,HS.out,lK (by rw [<-hs.1];omega)];simp;omega)
      clear HS hr HF;go_wp2_with fail;go_ret;exact ⟨aK HX.out.symm,hb⟩
    ·have HX:=zC (show T.fits ⟨dy,dp,st,en,ta,SA,sn,sc,sl⟩ r l=T.qx sl (k + 1) ((T.loads r l).drop (k + 1)) by
      rw [hr.out,HS.out];have h9:x<=(sl[k]?).getD 0:=by
       cases hy:sl[k]? with
       | none=>simp;omega
       | some y=>have:=(HC.out.2.2 y (zD hy)).1;simp;omega
      simp [h9])
     clear HS hr HF;go_wp2_with fail;go_roundw
     case rel=>exact ⟨k + 1,by go_num,by omega,HX.out,trivial⟩
     case measure=>simp [intOf];omega
   ·have hd:(T.loads r l).drop k=[]:=dF (by simp [T.loads];omega);have HX:=zC (show T.fits ⟨dy,dp,st,en,ta,SA,sn,sc,sl⟩ r l=true by rw [hr.out,hd];rfl);clear hd hr HF;go_wp2_with fail;go_ret;exact ⟨aK HX.out.symm,hb⟩
 ·have HF:=zC (show T.fits ⟨dy,dp,st,en,ta,SA,sn,sc,sl⟩ r l=false by simp [T.fits,hno]);clear hno;go_wp2_with fail;refine wp_loop_rounds 1 ?_;rw [rounds_succ];go_wp2_with fail;go_ret;exact ⟨aK HF.out.symm,hb⟩
end
section
open Go.RowKit Go.Maps
theorem ac9 (s:S) (B:aj) (m d:Nat) (r:List Q) (A:aj) (n c:Nat) (l:ag) (w:World) (hs:Ints w s.A s.n s.l) (hsn:s.n<=1000000000) (hq:dm w B m r) (hm:m<=1000000000) (fU:∀ q ∈ r,q.n<=1000000000) (hl:Ints w A n l) (hn:n<=1000000000) :
  ay 194 #[fG s,.slice B m d,.slice A n c] w λe w'=>af w w'/\((T.load s r l=true/\∃ g,e=.returned (.slice (some ⟨g,0,none⟩) 3 3)/\w.heap.size<=g/\Three w' g (T.room r 0 l) (T.room r 1 l) (T.room r 2 l))\/(T.load s r l=false/\e=.returned (.slice none 0 0))):=by
 cases h:T.load s r l
 ·exact (akI s B m d r A n c l w hs hsn hq hm fU hl hn h).mono λe w' ⟨h1,h2⟩=>⟨h2,.inr ⟨rfl,h1⟩⟩
 ·exact (akJ s B m d r A n c l w hs hsn hq hm fU hl hn h).mono λe w' ⟨g,h1,h2,h3,h4⟩=>⟨h4,.inl ⟨rfl,g,h1,h2,h3⟩⟩
theorem ac4 (s:S) (B:aj) (m d:Nat) (r:List Q) (A:aj) (n c:Nat) (l:ag) (w:World) (hs:Ints w s.A s.n s.l) (hsn:s.n<=1000000000) (hq:dm w B m r) (hm:m<=1000000000) (fU:∀ q ∈ r,q.n<=1000000000) (hl:Ints w A n l) (hn:n<=1000000000) :
  ay 182 #[fG s,.slice B m d,.slice A n c] w (bg w (T.fits s r l)):=by
 obtain ⟨dy,dp,st,en,ta,SA,sn,sc,sl⟩:=s;simp only at hs hsn ⊢;have b0:=(dK w).alloc (zG _) (.cells #[.int .i64 dy,.int .i64 dp,.int .i64 st,.int .i64 en,.int .i64 ta,.slice SA sn sc] 63);go_enter Tryz.func182,Tryz.ntmps182;go_wp2_with fail;refine (ac9 ⟨dy,dp,st,en,ta,SA,sn,sc,sl⟩ B m d r A n c l _ (hs.below b0) hsn (hq.below b0) hm fU (hl.below b0) hn).mono ?_;rintro e w1 ⟨hb1,hok⟩;have hP:=(bI.new w ⟨dy,dp,st,en,ta,SA,sn,sc,sl⟩).below hb1;have hb:=bel b0 hb1;clear hb1;rcases hok with ⟨hok,g,rfl,hg,hT⟩ | ⟨hno,rfl⟩
 ·have HF:=zC (show T.fits ⟨dy,dp,st,en,ta,SA,sn,sc,sl⟩ r l=T.qx sl 0 (T.loads r l) by simp [T.fits,hok]);obtain ⟨hch,_,jU⟩:=T.mO hok;have HB:=zC (λk x=>T.Nr (k:=k) (x:=x) jU (l:=l));have HC:=zC (T.DY hch);have hI:Ints w1 (some ⟨g,0,none⟩) 3 (T.loads r l):=hT.ints;have hs1:=hs.below hb;obtain ⟨G,hG⟩:∃ G:Addr,G=⟨g,0,none⟩:=⟨_,rfl⟩;rw [<-hG] at hI ⊢;clear hG;clear hok hch jU hT b0;have p5:=hP.c5;go_wp2_with fail;go_loopw [8] (λvi wr=>∃ k:Nat,vi=.int .i64 k/\k<=3/\Hid (T.fits ⟨dy,dp,st,en,ta,SA,sn,sc,sl⟩ r l=T.qx sl k ((T.loads r l).drop k))/\w1=wr) (λvi _=>3 - (intOf vi).toNat)
  case atStart=>exact ⟨0,rfl,by omega,HF.out,rfl⟩
  case round =>
   obtain ⟨k,rfl,hk,hr,rfl⟩:=hrel;by_cases hlt:k < 3
   ·obtain ⟨ad,x,he,hx,c0⟩:=hI.at_ hlt;injection he with he;subst he;have HS:=zC (T.fit_drop (gW:=sl) hx);obtain ⟨hx0,hx1⟩:=HB.out k x hx;have hx2:x<=1000000 * 1000000000:=by rw [<-hl.1] at hx1;omega
    clear hx hx1;by_cases hx:0 < x
    ·by_cases hks:k < sn
     ·obtain ⟨lM,y,rfl,hy,c1⟩:=hs1.at_ hks;have hyb:=HC.out.2.2 y (zD hy);have HY:=zC (show (sl[k]?).getD 0=y by rw [hy];rfl);clear hy;by_cases hxy:y < x
      ·have HX:=zC (show T.fits ⟨dy,dp,st,en,ta,some lM,sn,sc,sl⟩ r l=false by
        rw [hr.out,HS.out,HY.out];simp;omega)
       clear HS hr HF;go_wp2_with fail;go_ret;exact ⟨aK HX.out.symm,hb⟩
      ·have HX:=zC (show T.fits ⟨dy,dp,st,en,ta,some lM,sn,sc,sl⟩ r l=T.qx sl (k + 1) ((T.loads r l).drop (k + 1)) by
        rw [hr.out,HS.out,HY.out];simp;omega)
       clear HS hr HF;go_wp2_with fail;go_roundw
       case rel=>exact ⟨k + 1,by go_num,by omega,HX.out,trivial⟩
       case measure=>simp [intOf];omega
     ·have HX:=zC (show T.fits ⟨dy,dp,st,en,ta,SA,sn,sc,sl⟩ r l=false by
       rw [hr.out,HS.out,lK (by rw [<-hs.1];omega)];simp;omega)
      clear HS hr HF;go_wp2_with fail;go_ret;exact ⟨aK HX.out.symm,hb⟩
    ·have HX:=zC (show T.fits ⟨dy,dp,st,en,ta,SA,sn,sc,sl⟩ r l=T.qx sl (k + 1) ((T.loads r l).drop (k + 1)) by
      rw [hr.out,HS.out];have h9:x<=(sl[k]?).getD 0:=by
       cases hy:sl[k]? with
       | none=>simp;omega
       | some y=>have:=(HC.out.2.2 y (zD hy)).1;simp;omega
      simp [h9])
     clear HS hr HF;by_cases hks:k < sn
     ·obtain ⟨lM,y,rfl,hy,c1⟩:=hs1.at_ hks;have hyb:=HC.out.2.2 y (zD hy);have hxy:¬ y < x:=by omega
      clear hy;go_wp2_with fail;go_roundw
      case rel=>exact ⟨k + 1,by go_num,by omega,HX.out,trivial⟩
      case measure=>simp [intOf];omega
     ·go_wp2_with fail;go_roundw
      case rel=>exact ⟨k + 1,by go_num,by omega,HX.out,trivial⟩
      case measure=>simp [intOf];omega
   ·have hd:(T.loads r l).drop k=[]:=dF (by simp [T.loads];omega);have HX:=zC (show T.fits ⟨dy,dp,st,en,ta,SA,sn,sc,sl⟩ r l=true by rw [hr.out,hd];rfl);clear hd hr HF;go_wp2_with fail;go_ret;exact ⟨aK HX.out.symm,hb⟩
 ·have HF:=zC (show T.fits ⟨dy,dp,st,en,ta,SA,sn,sc,sl⟩ r l=false by simp [T.fits,hno]);clear hno;go_wp2_with fail;refine wp_loop_rounds 1 ?_;rw [rounds_succ];go_wp2_with fail;go_ret;exact ⟨aK HF.out.symm,hb⟩
end
section
open Go.RowKit Go.Maps
theorem Three.other {w:World} {B:Nat} {x y z:Int} (h:Three w B x y z) {a:Addr} (ha:B ≠ a.block) (u:Value):Three (w.setCell a u) B x y z:=(iG w a u B ha).trans h
theorem T.aeo {s:S} {r:List Q} {l:ag} (h:T.load s r l=true):T.weight s r l=s.aU + T.sum ((T.loads r l).take 3):=by simp [T.weight,h,T.loads]
theorem T.al0 {l:ag} {b:Int} (h:∀ x ∈ l,0<=x/\x<=b):0<=T.sum l/\T.sum l<=b * l.length:=by
 induction l with
 | nil=>simp [T.sum]
 | cons x l ih =>
  have h1:=h x dJ;have h2:=ih λy hy=>h y (dN _ hy);have e:b * ((l.length:Int) + 1)=b * l.length + b:=by rw [Int.mul_add,Int.mul_one]
  simp only [T.sum,dQ];rw [Int.natCast_add,Int.natCast_one,e];omega
theorem T.aeb {r:List Q} (h:T.wR r) {l:ag} {n k:Nat} (hn:n=l.length) (h9:n<=1000000000) (hk:k<=3):0<=T.sum ((T.loads r l).take k)/\T.sum ((T.loads r l).take k)<=3000000000000000:=by
 have b:=T.al0 (l:=(T.loads r l).take k) (b:=1000000000000000) λx hx=>by
  obtain ⟨j,hj⟩:=List.mem_iff_getElem?.1 (List.mem_of_mem_take hx);have:=T.Nr h hj;omega
 have hl:((T.loads r l).take k).length<=3:=by rw [List.length_take];simp [T.loads];omega
 omega
theorem YD (a:aj) (l c:Nat) (w:World):(binOp .eql 48 (.slice a l c) (.slice none 0 0)).run Tryz.prog w=.ok (.bool a.isNone) w:=by
 exact Go.run_eql_slice_nil w 48 3 a l c Tryz.underlying48
theorem VU (s:S) (B:aj) (m d:Nat) (r:List Q) (A:aj) (n c:Nat) (l:ag) (w:World) (hs:Ints w s.A s.n s.l) (hsn:s.n<=1000000000) (hq:dm w B m r) (hm:m<=1000000000) (fU:∀ q ∈ r,q.n<=1000000000) (hl:Ints w A n l) (hn:n<=1000000000) :
  ay 190 #[fG s,.slice B m d,.slice A n c] w (og w (T.weight s r l)):=by
 obtain ⟨dy,dp,st,en,ta,SA,sn,sc,sl⟩:=s;simp only at hs hsn ⊢;have b0:=(dK w).alloc (zG _) (.cells #[.int .i64 dy,.int .i64 dp,.int .i64 st,.int .i64 en,.int .i64 ta,.slice SA sn sc] 63);have SZ:=aF w (.cells #[.int .i64 dy,.int .i64 dp,.int .i64 st,.int .i64 en,.int .i64 ta,.slice SA sn sc] 63);have heq:=YD;go_enter Tryz.func190,Tryz.ntmps190;go_wp2_with fail;refine (abu ⟨dy,dp,st,en,ta,SA,sn,sc,sl⟩ B m d r A n c l _ (hs.below b0) hsn (hq.below b0) hm fU (hl.below b0) hn).mono ?_;rintro e w1 ⟨hb1,hok⟩;have hP:=(bI.new w ⟨dy,dp,st,en,ta,SA,sn,sc,sl⟩).below hb1;have hb:=bel b0 hb1;clear hb1;rcases hok with ⟨hok,g,rfl,hg,hT⟩ | ⟨hno,rfl⟩
 ·have HF:=zC (T.aeo hok);obtain ⟨hch,_,jU⟩:=T.mO hok;have HB:=zC (λk (hk:k<=3)=>T.aeb (k:=k) jU hl.1 hn hk);have HC:=(T.DY hch).2.1;simp only at HC;have HG:=zC hg;clear hok hch jU b0 hg;go_wp2_with fail;go_loopw [18] (λvi wr=>∃ k:Nat,vi=.int .i64 k/\k<=3/\bI wr w.heap.size ⟨dy,dp,st,en,ta + T.sum ((T.loads r l).take k),SA,sn,sc,sl⟩/\Three wr g (T.room r 0 l) (T.room r 1 l) (T.room r 2 l)/\af w wr) (λvi _=>3 - (intOf vi).toNat)
  case atStart=>exact ⟨0,rfl,by omega,by simpa [T.sum] using hP,hT,hb⟩
  case round =>
   obtain ⟨k,rfl,hk,hP,hT,hb⟩:=hrel;have hI:Ints wr (some ⟨g,0,none⟩) 3 (T.loads r l):=hT.ints;obtain ⟨tk,htk⟩:=zB (T.sum ((T.loads r l).take k));have B0:=HB.out k hk;rw [<-htk] at B0 hP;have p4:=hP.c4;simp only at p4;have pf:=hP.free;by_cases hlt:k < 3
   ·obtain ⟨ad,x,he,hx,c0⟩:=hI.at_ hlt;injection he with he;subst he;have HS:=zC (T.ad8 hx);have B1:=HB.out (k + 1) hlt;rw [HS.out,<-htk] at B1;rw [<-htk] at HS;rw [lN] at c0;clear hx htk hI;go_wp2_with fail;go_roundw
    case rel =>
     refine ⟨k + 1,by go_num,by omega,?_,hT.other (by have:=HG.out;show g ≠ w.heap.size;omega) _,hb.setCell (zG _) _⟩;have hn:=hP.alE (ta + tk + x);simp only at hn;rw [HS.out,<-Int.add_assoc];exact hn
    case measure=>simp [intOf];omega
   ·have hk3:k=3:=by omega
    have HX:=zC (show T.weight ⟨dy,dp,st,en,ta,SA,sn,sc,sl⟩ r l=ta + tk by rw [HF.out,htk,hk3]);clear htk HF hI;go_wp2_with fail;go_ret;exact ⟨jm HX.out.symm,hb⟩
 ·have HF:=zC (show T.weight ⟨dy,dp,st,en,ta,SA,sn,sc,sl⟩ r l=-1 by simp [T.weight,hno]);clear hno;go_wp2_with fail;go_ret;exact ⟨jm HF.out.symm,hb⟩
end
section
open Go.RowKit Go.Maps
theorem Oo (s:S) (B:aj) (m d:Nat) (r:List Q) (A:aj) (n c:Nat) (l:ag) (w:World) (hs:Ints w s.A s.n s.l) (hsn:s.n<=1000000000) (hq:dm w B m r) (hm:m<=1000000000) (fU:∀ q ∈ r,q.n<=1000000000) (hl:Ints w A n l) (hn:n<=1000000000) :
  ay 146 #[fG s,.slice B m d,.slice A n c] w (og w (T.weight s r l)):=by
 obtain ⟨dy,dp,st,en,ta,SA,sn,sc,sl⟩:=s;simp only at hs hsn ⊢;have b0:=(dK w).alloc (zG _) (.cells #[.int .i64 dy,.int .i64 dp,.int .i64 st,.int .i64 en,.int .i64 ta,.slice SA sn sc] 63);go_enter Tryz.func146,Tryz.ntmps146;go_wp2_with fail;refine (ac9 ⟨dy,dp,st,en,ta,SA,sn,sc,sl⟩ B m d r A n c l _ (hs.below b0) hsn (hq.below b0) hm fU (hl.below b0) hn).mono ?_;rintro e w1 ⟨hb1,hok⟩;have hP:=(bI.new w ⟨dy,dp,st,en,ta,SA,sn,sc,sl⟩).below hb1;have hb:=bel b0 hb1;clear hb1;rcases hok with ⟨hok,g,rfl,hg,hT⟩ | ⟨hno,rfl⟩
 ·have HF:=zC (T.aeo hok);obtain ⟨hch,_,jU⟩:=T.mO hok;have HB:=zC (λk (hk:k<=3)=>T.aeb (k:=k) jU hl.1 hn hk);have HC:=(T.DY hch).2.1;simp only at HC;have p4:=hP.c4;simp only at p4;have hI:Ints w1 (some ⟨g,0,none⟩) 3 (T.loads r l):=hT.ints;obtain ⟨G,hG⟩:∃ G:Addr,G=⟨g,0,none⟩:=⟨_,rfl⟩;rw [<-hG] at hI ⊢;clear hok hch jU b0 hg hG hT;go_wp2_with fail;go_loopw [8,9] (λso vi wr=>∃ k:Nat,vi=.int .i64 k/\k<=3/\so=.int .i64 (ta + T.sum ((T.loads r l).take k))/\w1=wr) (λ_ vi _=>3 - (intOf vi).toNat)
  case atStart=>exact ⟨0,rfl,by omega,by simp [T.sum],rfl⟩
  case round =>
   obtain ⟨k,rfl,hk,rfl,rfl⟩:=hrel;obtain ⟨tk,htk⟩:=zB (T.sum ((T.loads r l).take k));have B0:=HB.out k hk;rw [<-htk] at B0 ⊢;by_cases hlt:k < 3
   ·obtain ⟨ad,x,he,hx,c0⟩:=hI.at_ hlt;injection he with he;subst he;have HS:=zC (T.ad8 hx);have B1:=HB.out (k + 1) hlt;rw [HS.out,<-htk] at B1;rw [<-htk] at HS;clear hx htk;go_wp2_with fail;go_roundw
    case rel=>exact ⟨k + 1,by go_num,by omega,by rw [HS.out,Int.add_assoc],trivial⟩
    case measure=>simp [intOf];omega
   ·have hk3:k=3:=by omega
    have HX:=zC (show T.weight ⟨dy,dp,st,en,ta,SA,sn,sc,sl⟩ r l=ta + tk by rw [HF.out,htk,hk3]);clear htk HF;go_wp2_with fail;go_ret;exact ⟨jm HX.out.symm,hb⟩
 ·have HF:=zC (show T.weight ⟨dy,dp,st,en,ta,SA,sn,sc,sl⟩ r l=-1 by simp [T.weight,hno]);clear hno;go_wp2_with fail;go_ret;exact ⟨jm HF.out.symm,hb⟩
end
theorem T.aik {n:Int}:∀ (l b:ag),T.qJ n b l=true ↔ (∀ x ∈ l,0<=x/\x < n)/\l.Nodup/\∀ x ∈ l,x ∉ b:=by
 intro l;induction l with
 | nil=>intro b;simp [T.qJ]
 | cons y l ih =>
  intro b;simp only [T.qJ,dH,gu,Bool.not_eq_true',List.any_eq_false,beq_iff_eq,ih,dw,List.nodup_cons,dX,forall_eq_or_imp];constructor
  ·rintro ⟨h1,h2,h3,h4,h5,h6⟩;refine ⟨⟨⟨h1,h2⟩,h4⟩,⟨λhy=>h6 y hy (Or.inr (Or.inl rfl)),h5⟩,λhb=>h3 y hb rfl,λx hx hb=>h6 x hx (Or.inl hb)⟩
  ·rintro ⟨⟨⟨h1,h2⟩,h4⟩,⟨h7,h5⟩,h3,h6⟩;refine ⟨h1,h2,λx hx e=>h3 (e ▸ hx),h4,h5,λx hx hb=>?_⟩;rcases hb with hb | hb | hb
   ·exact h6 x hx hb
   ·subst hb;exact h7 hx
   ·simp at hb
theorem T.zU {n:Int} {l:ag}:T.isSet n l=true ↔ (∀ x ∈ l,0<=x/\x < n)/\l.Nodup:=by
 unfold T.isSet;rw [T.aik];simp
theorem T.abt {s:S} {r:List Q} {l:ag}:T.load s r l=true ↔ T.check s=0/\((∀ x ∈ l,0<=x/\x < (r.length:Int))/\l.Nodup)/\T.wR r:=by
 constructor
 ·intro h;obtain ⟨h1,h2,h3⟩:=T.mO h;exact ⟨h1,T.zU.1 h2,h3⟩
 ·rintro ⟨h1,h2,h3⟩;exact T.aiL h1 (T.zU.2 h2) h3
theorem T.IW {s:S} {r:List Q} {l m:ag} (h:T.load s r l=true) (hs:m.Sublist l):T.load s r m=true:=by
 obtain ⟨h1,⟨h2,h3⟩,h4⟩:=T.abt.1 h;exact T.abt.2 ⟨h1,⟨λx hx=>h2 x (hs.subset hx),h3.sublist hs⟩,h4⟩
theorem T.adb {r:List Q} (h:T.wR r) (j:Int) {l m:ag} (hs:m.Sublist l):T.room r j m<=T.room r j l:=by
 induction hs with
 | slnil=>exact Int.le_refl _
 | cons x _ ih=>have:=(T.aa5 h j x).1;simp only [T.room];omega
 | cons_cons x _ ih=>simp only [T.room];omega
theorem T.yV {s:S} {r:List Q} {l:ag}:T.fits s r l=true ↔ T.load s r l=true/\T.room r 0 l<=(s.l[0]?).getD 0/\T.room r 1 l<=(s.l[1]?).getD 0/\T.room r 2 l<=(s.l[2]?).getD 0:=by
 simp [T.fits,T.loads,T.qx]
theorem T.agM {s:S} {r:List Q} {l m:ag} (h:T.fits s r l=true) (hs:m.Sublist l):T.fits s r m=true:=by
 obtain ⟨h0,h1,h2,h3⟩:=T.yV.1 h;obtain ⟨_,_,hr⟩:=T.mO h0;have k:=λj=>T.adb hr j hs;have k0:=k 0;have k1:=k 1;have k2:=k 2;exact T.yV.2 ⟨T.IW h0 hs,by omega,by omega,by omega⟩
theorem T.VV {s:S} {r:List Q} {l:ag} (h:T.load s r l=true):T.weight s r l=s.aU + T.room r 0 l + T.room r 1 l + T.room r 2 l:=by
 simp [T.weight,h,T.loads,T.sum];omega
theorem T.aen {s:S} {r:List Q} {l m:ag} (h:T.load s r l=true) (hs:m.Sublist l):T.weight s r m<=T.weight s r l:=by
 obtain ⟨_,_,hr⟩:=T.mO h;have k:=λj=>T.adb hr j hs;have k0:=k 0;have k1:=k 1;have k2:=k 2;rw [T.VV h,T.VV (T.IW h hs)];omega
theorem T.amA {s:S} {r:List Q} {l:ag} (h:T.load s r l=true) (hl:l.length<=1000):0<=T.weight s r l/\T.weight s r l<=4000000000:=by
 obtain ⟨hc,_,hr⟩:=T.mO h;have ht:=(T.DY hc).2.1;have k:=λj=>T.Oh hr j l;have k0:=k 0;have k1:=k 1;have k2:=k 2;rw [T.VV h];omega
end Go.Proofs.YtippdjmpkafifaaGreat
