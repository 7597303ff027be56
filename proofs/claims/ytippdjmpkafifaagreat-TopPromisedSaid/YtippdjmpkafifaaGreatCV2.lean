import Derived.Test.YtippdjmpkafifaaGreatCV1
import Derived.Deep.OwnRows
import Derived.Maps.OwnSet
import Derived.Lib.LazyBuf
namespace Go.Proofs.YtippdjmpkafifaaGreat
open Go.RowKit
namespace T
def btw (n lo hi:Int):Bool:=decide (lo≤n) && decide (n≤hi)
def right (q:Q):Bool:=btw q.node 0 99 && (btw q.room 0 2 && (btw q.kilos 1 1000000 && (btw q.service 0 1000000 && (decide (0≤q.frm) && (btw q.by_ q.frm 100000 && H.right q.l)))))
end T
set_option maxHeartbeats 400000 in
theorem between_any (n lo hi:Int) (w:World):Calls Tryz.prog 167 #[.int .i64 n,.int .i64 lo,.int .i64 hi] w fun e w'=>e=.returned (.bool (T.btw n lo hi))∧w=w':=by
 by_cases h:lo≤n
 ·go_enter Tryz.func167,Tryz.ntmps167
  go_wp2
  all_goals (go_ret;exact ⟨ret_b (by simp [T.btw,h]),rfl⟩)
 ·have h':decide (lo≤n)=false:=by simpa using h
  have hh:=Lib.hid h
  clear h
  go_enter Tryz.func167,Tryz.ntmps167
  go_wp2
  all_goals (go_ret;exact ⟨ret_b (by have:=hh.out;simp [T.btw];omega),rfl⟩)
theorem T.days_no {q:Q} (h:(decide (0≤q.frm) && T.btw q.by_ q.frm 100000)=false):T.right q=false:=by
 unfold T.right
 cases h1:decide (0≤q.frm)
 ·simp
 ·rw [h1,Bool.true_and] at h
  simp [h]
set_option maxRecDepth 100000 in
set_option maxHeartbeats 4000000 in
theorem tright_any (q:Q) (w:World) (hl:Wins w q.A q.n q.l) (hn:q.n≤1000000000) :
  Calls Tryz.prog 119 #[.agg #[.int .i64 q.node,.int .i64 q.room,.int .i64 q.kilos,.int .i64 q.service,.int .i64 q.frm,.int .i64 q.by_,.slice q.A q.n q.c]] w fun e w'=>e=.returned (.bool (T.right q))∧Below w.heap.size w w':=by
 obtain ⟨nd,rm,kl,sv,fr,b,A,n,c,l⟩:=q
 simp only at hl hn ⊢
 have b1:Below w.heap.size w (w.alloc (.cells #[.int .i64 nd,.int .i64 rm,.int .i64 kl,.int .i64 sv,.int .i64 fr,.int .i64 b,.slice A n c] 47)):=(Below.refl _ _).alloc (Nat.le_refl _) _
 have hl1:=hl.below b1
 cases h0:T.btw nd 0 99
 ·have H0:=Lib.hid h0
  clear h0
  go_enter Tryz.func119,Tryz.ntmps119
  go_wp2_with fail
  refine (between_any _ _ _ _).mono ?_;rw [H0.out];rintro e w1 ⟨rfl,rfl⟩
  go_wp2_with fail
  go_ret
  exact ⟨ret_b (by simp [T.right,H0.out]),b1⟩
 ·have H0:=Lib.hid h0
  clear h0
  cases h1:T.btw rm 0 2
  ·have H1:=Lib.hid h1
   clear h1
   go_enter Tryz.func119,Tryz.ntmps119
   go_wp2_with fail
   refine (between_any _ _ _ _).mono ?_;rw [H0.out];rintro e w1 ⟨rfl,rfl⟩
   go_wp2_with fail
   refine (between_any _ _ _ _).mono ?_;rw [H1.out];rintro e w1 ⟨rfl,rfl⟩
   go_wp2_with fail
   go_ret
   exact ⟨ret_b (by simp [T.right,H0.out,H1.out]),b1⟩
  ·have H1:=Lib.hid h1
   clear h1
   cases h2:T.btw kl 1 1000000
   ·have H2:=Lib.hid h2
    clear h2
    go_enter Tryz.func119,Tryz.ntmps119
    go_wp2_with fail
    refine (between_any _ _ _ _).mono ?_;rw [H0.out];rintro e w1 ⟨rfl,rfl⟩
    go_wp2_with fail
    refine (between_any _ _ _ _).mono ?_;rw [H1.out];rintro e w1 ⟨rfl,rfl⟩
    go_wp2_with fail
    refine (between_any _ _ _ _).mono ?_;rw [H2.out];rintro e w1 ⟨rfl,rfl⟩
    go_wp2_with fail
    go_ret
    exact ⟨ret_b (by simp [T.right,H0.out,H1.out,H2.out]),b1⟩
   ·have H2:=Lib.hid h2
    clear h2
    by_cases g0:0≤fr∧fr≤b∧b≤100000
    ·obtain ⟨g1,g2,g3⟩:=g0
     have e1:T.btw b fr 100000=true:=by simp [T.btw,g2,g3]
     have G:=Lib.hid (And.intro g1 (And.intro g2 g3))
     have E1:=Lib.hid e1
     clear e1
     cases h4:T.btw sv 0 1000000
     ·have H4:=Lib.hid h4
      clear h4
      go_enter Tryz.func119,Tryz.ntmps119
      go_wp2_with fail
      refine (between_any _ _ _ _).mono ?_;rw [H0.out];rintro e w1 ⟨rfl,rfl⟩
      go_wp2_with fail
      refine (between_any _ _ _ _).mono ?_;rw [H1.out];rintro e w1 ⟨rfl,rfl⟩
      go_wp2_with fail
      refine (between_any _ _ _ _).mono ?_;rw [H2.out];rintro e w1 ⟨rfl,rfl⟩
      go_wp2_with fail
      refine (between_any _ _ _ _).mono ?_;rw [H4.out];rintro e w1 ⟨rfl,rfl⟩
      go_wp2_with fail
      go_ret
      exact ⟨ret_b (by simp [T.right,H0.out,H1.out,H2.out,E1.out,G.out,H4.out]),b1⟩
     ·have H4:=Lib.hid h4
      clear h4
      cases h5:H.right l
      ·have H5:=Lib.hid h5
       clear h5
       go_enter Tryz.func119,Tryz.ntmps119
       go_wp2_with fail
       refine (between_any _ _ _ _).mono ?_;rw [H0.out];rintro e w1 ⟨rfl,rfl⟩
       go_wp2_with fail
       refine (between_any _ _ _ _).mono ?_;rw [H1.out];rintro e w1 ⟨rfl,rfl⟩
       go_wp2_with fail
       refine (between_any _ _ _ _).mono ?_;rw [H2.out];rintro e w1 ⟨rfl,rfl⟩
       go_wp2_with fail
       refine (between_any _ _ _ _).mono ?_;rw [H4.out];rintro e w1 ⟨rfl,rfl⟩
       go_wp2_with fail
       refine (hright_any A n c l _ (hl.below b1) hn).mono ?_;rw [H5.out];rintro e w1 ⟨rfl,hb1⟩
       go_wp2_with fail
       go_ret
       exact ⟨ret_b (by simp [T.right,H0.out,H1.out,H2.out,E1.out,G.out,H4.out,H5.out]),(bel b1 hb1)⟩
      ·have H5:=Lib.hid h5
       clear h5
       go_enter Tryz.func119,Tryz.ntmps119
       go_wp2_with fail
       refine (between_any _ _ _ _).mono ?_;rw [H0.out];rintro e w1 ⟨rfl,rfl⟩
       go_wp2_with fail
       refine (between_any _ _ _ _).mono ?_;rw [H1.out];rintro e w1 ⟨rfl,rfl⟩
       go_wp2_with fail
       refine (between_any _ _ _ _).mono ?_;rw [H2.out];rintro e w1 ⟨rfl,rfl⟩
       go_wp2_with fail
       refine (between_any _ _ _ _).mono ?_;rw [H4.out];rintro e w1 ⟨rfl,rfl⟩
       go_wp2_with fail
       refine (hright_any A n c l _ (hl.below b1) hn).mono ?_;rw [H5.out];rintro e w1 ⟨rfl,hb1⟩
       go_wp2_with fail
       go_ret
       exact ⟨ret_b (by simp [T.right,H0.out,H1.out,H2.out,E1.out,G.out,H4.out,H5.out]),(bel b1 hb1)⟩
    ·have e1:(decide (0≤fr) && T.btw b fr 100000)=false:=by simp [T.btw];omega
     have E1:=Lib.hid e1
     clear e1
     by_cases g1:0≤fr
     ·by_cases g2:fr≤b
      ·have g3:decide (b≤100000)=false:=by simp;omega
       clear g0
       go_enter Tryz.func119,Tryz.ntmps119
       go_wp2_with fail
       refine (between_any _ _ _ _).mono ?_;rw [H0.out];rintro e w1 ⟨rfl,rfl⟩
       go_wp2_with fail
       refine (between_any _ _ _ _).mono ?_;rw [H1.out];rintro e w1 ⟨rfl,rfl⟩
       go_wp2_with fail
       refine (between_any _ _ _ _).mono ?_;rw [H2.out];rintro e w1 ⟨rfl,rfl⟩
       go_wp2_with fail
       go_ret
       exact ⟨ret_b (Eq.symm (T.days_no E1.out)),b1⟩
      ·have g3:decide (fr≤b)=false:=by simp;omega
       clear g0 g2
       go_enter Tryz.func119,Tryz.ntmps119
       go_wp2_with fail
       refine (between_any _ _ _ _).mono ?_;rw [H0.out];rintro e w1 ⟨rfl,rfl⟩
       go_wp2_with fail
       refine (between_any _ _ _ _).mono ?_;rw [H1.out];rintro e w1 ⟨rfl,rfl⟩
       go_wp2_with fail
       refine (between_any _ _ _ _).mono ?_;rw [H2.out];rintro e w1 ⟨rfl,rfl⟩
       go_wp2_with fail
       go_ret
       exact ⟨ret_b (Eq.symm (T.days_no E1.out)),b1⟩
     ·have g3:decide (0≤fr)=false:=by simp;omega
      clear g0 g1
      go_enter Tryz.func119,Tryz.ntmps119
      go_wp2_with fail
      refine (between_any _ _ _ _).mono ?_;rw [H0.out];rintro e w1 ⟨rfl,rfl⟩
      go_wp2_with fail
      refine (between_any _ _ _ _).mono ?_;rw [H1.out];rintro e w1 ⟨rfl,rfl⟩
      go_wp2_with fail
      refine (between_any _ _ _ _).mono ?_;rw [H2.out];rintro e w1 ⟨rfl,rfl⟩
      go_wp2_with fail
      go_ret
      exact ⟨ret_b (Eq.symm (T.days_no E1.out)),b1⟩
namespace T
def dated (s:S):Bool:=btw s.depot 0 99 && (decide (0≤s.start) && (decide (s.start≤s.end_) && decide (s.end_≤1000000)))
def heavy (l:List Int):Bool:=l.any fun x=>!btw x 0 1000000
def check (s:S):Int:=if btw s.day 0 100000=false then 17 else if dated s=false then 1 else if 3 < s.l.length then 6 else if heavy (s.tare :: s.l) then 20 else 0
end T
theorem T.check_day {s:S} (h:btw s.day 0 100000=false):T.check s=17:=by simp [T.check,h]
theorem T.check_arg {s:S} (h:btw s.day 0 100000=true) (h2:T.dated s=false):T.check s=1:=by simp [T.check,h,h2]
theorem T.check_full {s:S} (h:btw s.day 0 100000=true) (h2:T.dated s=true) (h3:3 < s.l.length):T.check s=6:=by simp [T.check,h,h2,h3]
theorem T.check_heavy {s:S} (h:btw s.day 0 100000=true) (h2:T.dated s=true) (h3:¬ 3 < s.l.length):T.check s=if T.heavy (s.tare :: s.l) then 20 else 0:=by simp [T.check,h,h2];omega
theorem T.heavy_drop {l:List Int} {k:Nat} {x:Int} (h:l[k]? = some x):T.heavy (l.drop k)=(!T.btw x 0 1000000 || T.heavy (l.drop (k + 1))):=by
 obtain ⟨hk,e⟩:=List.getElem?_eq_some_iff.1 h
 rw [List.drop_eq_getElem_cons hk,e]
 rfl
theorem Tryz.info3:(Tryz.prog.info? 3).map (fun i=>(i.zero,i.size,i.bytes))=some (some (.int .i64 0),1,8):=by kernel_rfl
set_option maxRecDepth 100000 in
set_option maxHeartbeats 4000000 in
theorem check_any (s:S) (w:World) (hl:Ints w s.A s.n s.l) (hn:s.n≤1000000000) :
  Calls Tryz.prog 118 #[.agg #[.int .i64 s.day,.int .i64 s.depot,.int .i64 s.start,.int .i64 s.end_,.int .i64 s.tare,.slice s.A s.n s.c]] w fun e w'=>e=.returned (.int .i64 (T.check s))∧Below w.heap.size w w':=by
 obtain ⟨dy,dp,st,en,ta,A,n,c,l⟩:=s
 simp only at hl hn ⊢
 have b1:Below w.heap.size w (w.alloc (.cells #[.int .i64 dy,.int .i64 dp,.int .i64 st,.int .i64 en,.int .i64 ta,.slice A n c] 63)):=(Below.refl _ _).alloc (Nat.le_refl _) _
 cases h1:T.btw dy 0 100000
 ·go_enter Tryz.func118,Tryz.ntmps118
  go_wp2_with fail
  refine (between_any _ _ _ _).mono ?_;rw [h1];rintro e w1 ⟨rfl,rfl⟩
  go_wp2_with fail
  go_ret
  exact ⟨ret_i (T.check_day h1).symm,b1⟩
 ·have H1:=Lib.hid h1
  clear h1
  cases h2:T.btw dp 0 99
  ·have HD:=Lib.hid (show T.dated ⟨dy,dp,st,en,ta,A,n,c,l⟩=false by simp [T.dated,h2])
   have H2:=Lib.hid h2
   clear h2
   go_enter Tryz.func118,Tryz.ntmps118
   go_wp2_with fail
   refine (between_any _ _ _ _).mono ?_;rw [H1.out];rintro e w1 ⟨rfl,rfl⟩
   go_wp2_with fail
   refine (between_any _ _ _ _).mono ?_;rw [H2.out];rintro e w1 ⟨rfl,rfl⟩
   go_wp2_with fail
   go_ret
   exact ⟨ret_i (T.check_arg H1.out HD.out).symm,b1⟩
  ·have H2:=Lib.hid h2
   by_cases h0:0≤st∧st≤en∧en≤1000000
   ·have HD:=Lib.hid (show T.dated ⟨dy,dp,st,en,ta,A,n,c,l⟩=true by simp [T.dated,h2,h0])
    obtain ⟨h3,h4,h5⟩:=h0
    have q3:decide (st < 0)=false:=by simpa using h3
    have q4:decide (en < st)=false:=by simpa using h4
    have q5:decide (1000000 < en)=false:=by simpa using h5
    clear h2 h3 h4 h5
    by_cases h6:3 < n
    ·have q6:decide ((3:Int) < (n:Int))=true:=by simp;omega
     have HF:=Lib.hid (T.check_full (s:=⟨dy,dp,st,en,ta,A,n,c,l⟩) H1.out HD.out (by rw [←hl.1];exact h6))
     go_enter Tryz.func118,Tryz.ntmps118
     go_wp2_with fail
     refine (between_any _ _ _ _).mono ?_;rw [H1.out];rintro e w1 ⟨rfl,rfl⟩
     go_wp2_with fail
     refine (between_any _ _ _ _).mono ?_;rw [H2.out];rintro e w1 ⟨rfl,rfl⟩
     go_wp2_with fail
     go_ret
     exact ⟨ret_i HF.out.symm,b1⟩
    ·have q6:decide ((3:Int) < (n:Int))=false:=by simp;omega
     have HF:=Lib.hid (T.check_heavy (s:=⟨dy,dp,st,en,ta,A,n,c,l⟩) H1.out HD.out (by rw [←hl.1];exact h6))
     obtain ⟨i0,hi,hz0,hz1,hz2⟩:=info_parts Tryz.info3
     have hl1:=(hl.below b1).2.below (((Below.refl _ _).alloc (Nat.le_refl _) (.cells #[.int .i64 ta] 3)))
     have hlit:=World.ownsRow_lit (base:=w.heap.size) (e:=3) (size:=1) (w.alloc (.cells #[.int .i64 dy,.int .i64 dp,.int .i64 st,.int .i64 en,.int .i64 ta,.slice A n c] 63)) #[.int .i64 ta] 1 b1.size (by simp [maxLen]) rfl
     have hsz:(w.alloc (.cells #[.int .i64 dy,.int .i64 dp,.int .i64 st,.int .i64 en,.int .i64 ta,.slice A n c] 63)).heap.size=w.heap.size + 1:=World.size_alloc ..
     rw [hsz] at hlit
     clear hsz
     go_enter Tryz.func118,Tryz.ntmps118
     go_wp2_with fail
     refine (between_any _ _ _ _).mono ?_;rw [H1.out];rintro e w1 ⟨rfl,rfl⟩
     go_wp2_with fail
     refine (between_any _ _ _ _).mono ?_;rw [H2.out];rintro e w1 ⟨rfl,rfl⟩
     go_wp2_with (at_builtin;refine wp_append_rd rfl (.tmp 39) (.tmp 41) 48 rfl w.heap.size 3 i0 (.int .i64 0) 1 8 Tryz.underlying48 hi hz0 hz1 hz2 rfl (by decide) _ 1 _ rfl hlit A n c (intCells l) rfl hl1 (intCells_one l) (by simp only [maxLen];omega) (by omega) (by first | (simp;done) | (simp;omega)) ?_;intro v' w4 hown4 hgrow4 hat4;obtain ⟨A',c',rfl,hI⟩:=own_ints (l:=ta :: l) hown4 (by rw [List.length_cons,←hl.1];omega))
     have b4:Below w.heap.size w w4:=below_own (b1.alloc b1.size _) (Nat.le_refl _) hgrow4 (fun g h=>(hlit.lt g h).1)
     clear hown4 hgrow4 hat4 hlit hl1 hi hz0 hz1 hz2
     go_loopw [44] (fun vi wr=>∃ k:Nat,vi=.int .i64 k∧k≤1 + n∧Hid (T.heavy (ta :: l)=T.heavy ((ta :: l).drop k))∧w4=wr) (fun vi _=>1 + n - (intOf vi).toNat)
     case atStart=>exact ⟨0,rfl,by omega,rfl,rfl⟩
     case round =>
      obtain ⟨k,rfl,hk,hr,rfl⟩:=hrel
      by_cases hlt:k < 1 + n
      ·obtain ⟨ad,x,rfl,hg,c0⟩:=hI.at_ hlt
       have HS:=Lib.hid (T.heavy_drop hg)
       clear hg
       go_wp2_with fail
       refine (between_any _ _ _ _).mono ?_;rintro e w1 ⟨rfl,rfl⟩
       cases hx:T.btw x 0 1000000
       ·go_wp2_with fail
        go_ret
        exact ⟨ret_i (Eq.symm (by rw [HF.out,hr.out,HS.out,hx];rfl)),b4⟩
       ·go_wp2_with fail
        go_roundw
        case rel=>exact ⟨k + 1,by go_num,by omega,by show _=_;rw [hr.out,HS.out,hx];rfl,trivial⟩
        case measure=>simp [intOf];omega
      ·have hd:(ta :: l).drop k=[]:=List.drop_eq_nil_of_le (by rw [List.length_cons,←hl.1];omega)
       have HN:=Lib.hid hd
       clear hd
       go_wp2_with fail
       go_ret
       exact ⟨ret_i (Eq.symm (by rw [HF.out,hr.out,HN.out];rfl)),b4⟩
   ·have HD:=Lib.hid (show T.dated ⟨dy,dp,st,en,ta,A,n,c,l⟩=false by simp [T.dated,h2];omega)
    clear h2
    have hc:(decide (st < 0)=true)∨(decide (st < 0)=false∧decide (en < st)=true)∨(decide (st < 0)=false∧decide (en < st)=false∧decide (1000000 < en)=true):=by simp;omega
    clear h0
    rcases hc with q3 | ⟨q3,q4⟩ | ⟨q3,q4,q5⟩
    all_goals
     go_enter Tryz.func118,Tryz.ntmps118
     go_wp2_with fail
     refine (between_any _ _ _ _).mono ?_;rw [H1.out];rintro e w1 ⟨rfl,rfl⟩
     go_wp2_with fail
     refine (between_any _ _ _ _).mono ?_;rw [H2.out];rintro e w1 ⟨rfl,rfl⟩
     go_wp2_with fail
     go_ret
     exact ⟨ret_i (T.check_arg H1.out HD.out).symm,b1⟩
set_option maxHeartbeats 400000 in
theorem loads1_any (q:Q) (w:World) (hl:Wins w q.A q.n q.l) (hn:q.n≤1000000000) :
  Calls Tryz.prog 200 #[.agg #[.int .i64 q.node,.int .i64 q.room,.int .i64 q.kilos,.int .i64 q.service,.int .i64 q.frm,.int .i64 q.by_,.slice q.A q.n q.c]] w fun e w'=>e=.returned (.bool (!T.right q))∧Below w.heap.size w w':=by
 go_enter Tryz.func200,Tryz.ntmps200
 go_wp2_with fail
 refine (tright_any q _ (hl.below ?_) hn).mono ?_
 ·exact (Below.refl _ _).alloc (Nat.le_refl _) _
 rintro e w1 ⟨rfl,hb1⟩
 go_wp2_with fail
 go_ret
 exact ⟨rfl,bel ((Below.refl _ _).alloc (Nat.le_refl _) _) hb1⟩
set_option maxHeartbeats 1000000 in
theorem indexQ (A:Option Addr) (n c:Nat) (l:List Q) (w:World) (hl:Reqs w A n l) (hn:n≤1000000000) (hq:∀ q ∈ l,q.n≤1000000000) :
  Calls Tryz.prog 202 #[.slice A n c,.func (.func 200) #[] #[]] w fun e w'=>(∃ i:Int,e=.returned (.int .i64 i)∧(decide (0≤i))=l.any fun q=>!T.right q)∧Below w.heap.size w w':=by
 go_enter Tryz.func202,Tryz.ntmps202
 go_wp2_with fail
 go_loopw [8] (fun vi wr=>∃ k:Nat,vi=.int .i64 k∧k≤n∧Hid ((l.any fun q=>!T.right q)=(l.drop k).any fun q=>!T.right q)∧Below w.heap.size w wr) (fun vi _=>n - (intOf vi).toNat)
 case atStart=>exact ⟨0,rfl,by omega,by show _=_;rw [List.drop_zero],Below.refl _ _⟩
 case round =>
  obtain ⟨k,rfl,hk,hr,hbr⟩:=hrel
  by_cases hlt:k < n
  ·obtain ⟨ad,q,rfl,hg,hwq,c0,c1,c2,c3,c4,c5,c6⟩:=(hl.below hbr).at_ hlt
   have hqn:=hq q (List.mem_of_getElem? hg)
   have HS:=Lib.hid (drop_any (p:=fun q=>!T.right q) hg)
   clear hg
   go_wp2_with fail
   refine (loads1_any q _ hwq hqn).mono ?_
   rintro e w1 ⟨rfl,hb1⟩
   cases hpx:T.right q
   ·go_wp2_with fail
    go_ret
    exact ⟨⟨k,rfl,by rw [hr.out,HS.out,hpx];simp⟩,bel hbr hb1⟩
   ·go_wp2_with fail
    go_roundw
    case rel=>exact ⟨k + 1,by go_num,by omega,by show _=_;rw [hr.out,HS.out,hpx];rfl,bel hbr hb1⟩
    case measure=>simp [intOf];omega
  ·have hd:l.drop k=[]:=List.drop_eq_nil_of_le (by rw [←hl.1];omega)
   have HD:=Lib.hid hd
   clear hd
   go_wp2_with fail
   go_ret
   exact ⟨⟨-1,rfl,by rw [hr.out,HD.out];rfl⟩,hbr⟩
set_option maxHeartbeats 400000 in
theorem containsQ (A:Option Addr) (n c:Nat) (l:List Q) (w:World) (hl:Reqs w A n l) (hn:n≤1000000000) (hq:∀ q ∈ l,q.n≤1000000000) :
  Calls Tryz.prog 175 #[.slice A n c,.func (.func 200) #[] #[]] w fun e w'=>e=.returned (.bool (l.any fun q=>!T.right q))∧Below w.heap.size w w':=by
 go_enter Tryz.func175,Tryz.ntmps175
 go_wp2_with fail
 refine (indexQ A n c l _ hl hn hq).mono ?_
 rintro e w1 ⟨⟨i,rfl,hi⟩,hb1⟩
 go_wp2_with fail
 go_ret
 exact ⟨rfl,hb1⟩
theorem take_eq_nexti {la lb:List Int} {k:Nat} {x y:Int} (hx:la[k]? = some x) (hy:lb[k]? = some y) (h:la.take k=lb.take k):la.take (k + 1)=lb.take (k + 1) ↔ x=y:=by
 obtain ⟨h1,e1⟩:=List.getElem?_eq_some_iff.1 hx
 obtain ⟨h2,e2⟩:=List.getElem?_eq_some_iff.1 hy
 rw [List.take_succ_eq_append_getElem h1,List.take_succ_eq_append_getElem h2,e1,e2,h]
 simp
namespace T
def isSetFrom (n:Int):List Int→List Int→Bool
 | _,[]=>true
 | before,x :: l=>decide (0≤x) && (decide (x < n) && (!(before.any (· == x)) && isSetFrom n (before ++ [x]) l))
def isSet (n:Int) (l:List Int):Bool:=isSetFrom n [] l
end T
theorem T.isSet_drop {n:Int} {l:List Int} {k:Nat} {x:Int} (h:l[k]? = some x) :
  T.isSetFrom n (l.take k) (l.drop k)=(decide (0≤x) && (decide (x < n) && (!((l.take k).any (· == x)) && T.isSetFrom n (l.take (k + 1)) (l.drop (k + 1))))):=by
 obtain ⟨hk,e⟩:=List.getElem?_eq_some_iff.1 h
 rw [List.drop_eq_getElem_cons hk,e,List.take_succ_eq_append_getElem hk,e]
 rfl
namespace T
def load (s:S) (r:List Q) (l:List Int):Bool:=(check s == 0) && (isSet r.length l && !(r.any fun q=>!right q))
end T
namespace T
def few (s:S) (r:List Q) (most:Nat):Bool:=!((r.take (most + 1)).any fun q=>decide (10 < q.n)) && (decide (s.n≤6) && decide (r.length≤most))
end T
theorem T.few_take {r:List Q} {m k:Nat} {q:Q} (hk:k < m) (h:r[k]? = some q) (p:Q→Bool):((r.take m).drop k).any p=(p q || ((r.take m).drop (k + 1)).any p):=by
 have h':(r.take m)[k]? = some q:=by rw [List.getElem?_take,if_pos hk];exact h
 obtain ⟨hk,e⟩:=List.getElem?_eq_some_iff.1 h'
 rw [List.drop_eq_getElem_cons hk,e]
 rfl
set_option maxHeartbeats 2000000 in
theorem few_any (s:S) (B:Option Addr) (m d:Nat) (r:List Q) (most:Nat) (w:World) (hq:Reqs w B m r) (hmo:most≤1000) :
  Calls Tryz.prog 64 #[.agg #[.int .i64 s.day,.int .i64 s.depot,.int .i64 s.start,.int .i64 s.end_,.int .i64 s.tare,.slice s.A s.n s.c],.slice B m d,.int .i64 most] w fun e w'=>e=.returned (.bool (T.few s r most))∧Below w.heap.size w w':=by
 go_enter Tryz.func64,Tryz.ntmps64
 go_wp2_with fail
 go_loopw [7] (fun vi wr=>∃ k:Nat,vi=.int .i64 k∧k≤m∧k≤most + 1∧Hid (T.few s r most=(!(((r.take (most + 1)).drop k).any fun q=>decide (10 < q.n)) && (decide (s.n≤6) && decide (r.length≤most))))∧(w.alloc (.cells #[.int .i64 s.day,.int .i64 s.depot,.int .i64 s.start,.int .i64 s.end_,.int .i64 s.tare,.slice s.A s.n s.c] 63))=wr) (fun vi _=>m - (intOf vi).toNat)
 case atStart=>exact ⟨0,rfl,by omega,by omega,by show _=_;rfl,rfl⟩
 case round =>
  obtain ⟨k,rfl,hk,hk2,hr,rfl⟩:=hrel
  have hbr:Below w.heap.size w (w.alloc (.cells #[.int .i64 s.day,.int .i64 s.depot,.int .i64 s.start,.int .i64 s.end_,.int .i64 s.tare,.slice s.A s.n s.c] 63)):=(Below.refl _ _).alloc (Nat.le_refl _) _
  by_cases hlt:k < m
  ·by_cases hlm:k≤most
   ·obtain ⟨ad,q,rfl,hg,hwq,c0,c1,c2,c3,c4,c5,c6⟩:=(hq.below hbr).at_ hlt
    have HS:=Lib.hid (T.few_take (show k < most + 1 by omega) hg fun q=>decide (10 < q.n))
    clear hg
    cases h10:decide ((10:Int) < q.n)
    ·have HN:=Lib.hid (show decide (10 < q.n)=false by simp at h10 ⊢;omega)
     go_wp2_with fail
     go_roundw
     case rel=>exact ⟨k + 1,by go_num,by omega,by omega,by show _=_;rw [hr.out,HS.out,HN.out];rfl,trivial⟩
     case measure=>simp [intOf];omega
    ·have HN:=Lib.hid (show decide (10 < q.n)=true by simp at h10 ⊢;omega)
     go_wp2_with fail
     go_ret
     exact ⟨ret_b (Eq.symm (by rw [hr.out,HS.out,HN.out];rfl)),hbr⟩
   ·have hd:(r.take (most + 1)).drop k=[]:=List.drop_eq_nil_of_le (by rw [List.length_take];omega)
    have HD:=Lib.hid (show T.few s r most=false by rw [hr.out,hd,←hq.1];simp;omega)
    clear hd
    have q1:decide ((k:Int)≤most)=false:=by simpa using hlm
    have q2:decide ((m:Int)≤most)=false:=by simp;omega
    cases h6:decide ((s.n:Int)≤6)
    ·go_wp2_with fail
     go_ret
     exact ⟨ret_b HD.out.symm,hbr⟩
    ·have HF:=Lib.hid (show T.few s r most=decide (m≤most) by rw [HD.out];simp;omega)
     go_wp2_with fail
     go_ret
     exact ⟨ret_b HF.out.symm,hbr⟩
  ·have hd:(r.take (most + 1)).drop k=[]:=List.drop_eq_nil_of_le (by rw [List.length_take,←hq.1];omega)
   have HD:=Lib.hid (show T.few s r most=(decide (s.n≤6) && decide (r.length≤most)) by rw [hr.out,hd];rfl)
   clear hd
   cases h6:decide ((s.n:Int)≤6)
   ·have HF:=Lib.hid (show T.few s r most=false by rw [HD.out];simp at h6 ⊢;omega)
    go_wp2_with fail
    go_ret
    exact ⟨ret_b HF.out.symm,hbr⟩
   ·have HF:=Lib.hid (show T.few s r most=decide (m≤most) by rw [HD.out,←hq.1];simp at h6 ⊢;omega)
    go_wp2_with fail
    go_ret
    exact ⟨ret_b HF.out.symm,hbr⟩
namespace T
def kilo (r:List Q) (j i:Int):Int:=match r[i.toNat]? with
 | some q=>if q.room=j then q.kilos else 0
 | none=>0
def room (r:List Q) (j:Int):List Int→Int
 | []=>0
 | i :: l=>kilo r j i + room r j l
def loads (r:List Q) (l:List Int):List Int:=[room r 0 l,room r 1 l,room r 2 l]
end T
theorem T.room_app (r:List Q) (j:Int) (a b:List Int):T.room r j (a ++ b)=T.room r j a + T.room r j b:=by
 induction a with
 | nil=>simp [T.room]
 | cons x a ih=>simp [T.room,ih];omega
theorem T.room_next {r:List Q} {j:Int} {l:List Int} {k:Nat} {x:Int} (h:l[k]? = some x):T.room r j (l.take (k + 1))=T.room r j (l.take k) + T.kilo r j x:=by
 obtain ⟨hk,e⟩:=List.getElem?_eq_some_iff.1 h
 rw [List.take_succ_eq_append_getElem hk,e,T.room_app]
 simp [T.room]
theorem T.btw_iff {n lo hi:Int}:T.btw n lo hi=true ↔ lo≤n∧n≤hi:=by simp [T.btw]
theorem T.right_room {q:Q} (h:T.right q=true):(q.room=0∨q.room=1∨q.room=2)∧1≤q.kilos∧q.kilos≤1000000:=by
 simp [T.right,T.btw] at h
 omega
def T.allRight (r:List Q):Prop:=∀ q ∈ r,T.right q=true
theorem T.kilo_bound {r:List Q} (h:T.allRight r) (j i:Int):0≤T.kilo r j i∧T.kilo r j i≤1000000:=by
 unfold T.kilo
 cases hq:r[i.toNat]? with
 | none=>simp
 | some q =>
  have:=(T.right_room (h q (List.mem_of_getElem? hq))).2
  simp only
  split <;> omega
theorem T.room_bound {r:List Q} (h:T.allRight r) (j:Int) (l:List Int):0≤T.room r j l∧T.room r j l≤1000000 * l.length:=by
 induction l with
 | nil=>simp [T.room]
 | cons x l ih =>
  have:=T.kilo_bound h j x
  simp only [T.room,List.length_cons]
  omega
theorem T.kilo_self {r:List Q} {i:Int} {q:Q} (h:r[i.toNat]? = some q) (j:Int):T.kilo r j i=if q.room=j then q.kilos else 0:=by
 unfold T.kilo;rw [h]
theorem T.isSetFrom_mem {n:Int} {b l:List Int} (h:T.isSetFrom n b l=true):∀ x ∈ l,0≤x∧x < n:=by
 induction l generalizing b with
 | nil=>intro x hx;simp at hx
 | cons y l ih =>
  simp [T.isSetFrom] at h
  intro x hx
  rcases List.mem_cons.1 hx with rfl | hx
  ·exact ⟨h.1,h.2.1⟩
  ·exact ih h.2.2.2 x hx
theorem T.load_parts {s:S} {r:List Q} {l:List Int} (h:T.load s r l=true):T.check s=0∧T.isSet r.length l=true∧T.allRight r:=by
 simp [T.load] at h
 exact ⟨h.1,h.2.1,h.2.2⟩
theorem T.load_mk {s:S} {r:List Q} {l:List Int} (h1:T.check s=0) (h2:T.isSet r.length l=true) (h3:T.allRight r):T.load s r l=true:=by
 simp [T.load,h1,h2]
 exact h3
def Three (w:World) (B:Nat) (x y z:Int):Prop:=w.heap[B]? = some (.cells #[.int .i64 x,.int .i64 y,.int .i64 z] 3 (0,0))
theorem Three.below {w w':World} {B:Nat} {x y z:Int} (h:Three w B x y z) (hb:Below w.heap.size w w'):Three w' B x y z:=blk_below hb h
theorem Three.lt {w:World} {B:Nat} {x y z:Int} (h:Three w B x y z):B < w.heap.size:=lt_of_block h
theorem Three.c0 {w:World} {B:Nat} {x y z:Int} (h:Three w B x y z):w.cell? ⟨B,0,none⟩=some (.int .i64 x):=blk_cell h 0 _ rfl
theorem Three.c1 {w:World} {B:Nat} {x y z:Int} (h:Three w B x y z):w.cell? ⟨B,1,none⟩=some (.int .i64 y):=blk_cell h 1 _ rfl
theorem Three.c2 {w:World} {B:Nat} {x y z:Int} (h:Three w B x y z):w.cell? ⟨B,2,none⟩=some (.int .i64 z):=blk_cell h 2 _ rfl
theorem Three.free {w:World} {B:Nat} {x y z:Int} (h:Three w B x y z) (i:Nat):w.frozen? ⟨B,i,none⟩=false:=by
 unfold Three at h
 simp [World.frozen?,h]
theorem Three.set {w:World} {B:Nat} {x y z:Int} (h:Three w B x y z) (i:Nat) (v:Value):(w.setCell ⟨B,i,none⟩ v).heap[B]? = some (.cells (#[Value.int .i64 x,.int .i64 y,.int .i64 z].setIfInBounds i v) 3 (0,0)):=by
 have hlt:=h.lt
 have h':w.heap[B] = .cells #[.int .i64 x,.int .i64 y,.int .i64 z] 3 (0,0):=by simpa [Three,Array.getElem?_eq_getElem hlt] using h
 show (w.heap.modify B _)[B]? = _
 rw [Array.getElem?_eq_getElem (by simpa using hlt),Array.getElem_modify_self,h']
 rfl
theorem Three.set0 {w:World} {B:Nat} {x y z:Int} (h:Three w B x y z) (u:Int):Three (w.setCell ⟨B,0,none⟩ (.int .i64 u)) B u y z:=h.set 0 _
theorem Three.set1 {w:World} {B:Nat} {x y z:Int} (h:Three w B x y z) (u:Int):Three (w.setCell ⟨B,1,none⟩ (.int .i64 u)) B x u z:=h.set 1 _
theorem Three.set2 {w:World} {B:Nat} {x y z:Int} (h:Three w B x y z) (u:Int):Three (w.setCell ⟨B,2,none⟩ (.int .i64 u)) B x y u:=h.set 2 _
theorem Three.ints {w:World} {B:Nat} {x y z:Int} (h:Three w B x y z):Ints w (some ⟨B,0,none⟩) 3 [x,y,z]:=⟨rfl,Rd.of_block h 1 3 rfl⟩
theorem make_three (w:World):(Instr.makeSlice 48 (.int .i64 3) (.int .i64 3)).run Tryz.prog w=.ok (.slice (some ⟨w.heap.size,0,none⟩) 3 3) (w.alloc (.cells #[.int .i64 0,.int .i64 0,.int .i64 0] 3)) :=
 by
 have h:=run_make_row' (P:=Tryz.prog) 48 3 (.int .i64 0) 8 Tryz.underlying48 Tryz.info3 rfl .i64 .i64 3 (by omega) (by omega) w
 rw [show madeCells #[Value.int .i64 0] 3=#[.int .i64 0,.int .i64 0,.int .i64 0] from Array.ext (by simp [madeCells]) (fun i h1 h2=>by simp [madeCells] at h1 ⊢;rcases i with _ | _ | _ | i <;> first | rfl | omega)] at h
 exact h
end Go.Proofs.YtippdjmpkafifaaGreat
namespace Go
open Go.Maps (Keyed)
theorem plainElem_bool_inv {H:Type} {P:Program} {e:TypeId} (he:P.underlying e=some .bool) {v:Value} {z:DataW H × List MemPlace} (h:plainElem P e v=some z):∃ x,v=.bool x∧z=(.lit (.bool x),[]):=by
 unfold plainElem at h
 rw [he] at h
 cases v <;> simp at h
 subst h
 exact ⟨_,rfl,rfl⟩
theorem World.ownsMap.lookup_bool {H:Type} {P:Program} {w:World} {k t e:TypeId} {b n:Nat} {D:DataW H} (h:w.ownsMap P k (plainElem P e) b n D) (K:Keyed P k) (ht:P.underlying t=some (.map k e)) (he:P.underlying e=some .bool) (hz:(zeroValue e).run P w=.ok (.bool false) w)
  {key:Value} {kl:Lit} (hkey:keyOf P k key=some kl):∃ c,(Instr.lookup t (.map (some b)) key false).run P w=.ok (.bool c) w∧D.atKey kl (.lit (.bool false))=.lit (.bool c):=by
 obtain ⟨v,ps,hrun,hv⟩:=h.lookup K ht hz (plainElem_bool he false) hkey
 obtain ⟨c,rfl,hc⟩:=plainElem_bool_inv he hv
 simp only [Prod.mk.injEq] at hc
 exact ⟨c,hrun,hc.1⟩
end Go
namespace Go.Proofs.YtippdjmpkafifaaGreat
open Go.RowKit Go.Maps
def seen (l:List Int):DataW Unit:=setOf (.lit (.bool true)) (l.map (Lit.int .i64))
theorem seen_nil:seen [] = .map []:=rfl
theorem seen_snoc (l:List Int) (x:Int):seen (l ++ [x])=(seen l).put (.int .i64 x) (.lit (.bool true)):=by
 unfold seen;rw [List.map_append,List.map_singleton,setOf_snoc]
theorem atKey_fold (x:Int):∀ (l:List Int) (m:DataW Unit),IsMap m→((l.map (Lit.int .i64)).foldl (fun m x=>m.put x (.lit (.bool true))) m).atKey (.int .i64 x) (.lit (.bool false))=if l.any (· == x) then .lit (.bool true) else m.atKey (.int .i64 x) (.lit (.bool false)):=by
 intro l
 induction l with
 | nil=>intro m _;rfl
 | cons y l ih =>
  intro m hm
  rw [List.map_cons,List.foldl_cons,ih _ (hm.put _ _),List.any_cons]
  by_cases hy:y=x
  ·subst hy
   rw [atKey_put_same hm (by trivial)]
   simp
  ·rw [atKey_put_other (by intro e;injection e with _ e;exact hy e.symm),show (y == x)=false by simpa using hy,Bool.false_or]
theorem seen_at (l:List Int) (x:Int):(seen l).atKey (.int .i64 x) (.lit (.bool false))=.lit (.bool (l.any (· == x))):=by
 unfold seen setOf
 rw [atKey_fold x l _ isMap_empty]
 cases l.any (· == x) <;> rfl
theorem law3:Keyed Tryz.prog 3:=int_keyed Tryz.underlying3
set_option maxRecDepth 100000 in
theorem zero4 (w:World):(zeroValue 4).run Tryz.prog w=.ok (.bool false) w:=by kernel_rfl
def Seen (w:World) (b n:Nat) (l:List Int):Prop:=w.ownsMap Tryz.prog 3 (plainElem Tryz.prog 4) b n (seen l)
set_option maxRecDepth 100000 in
theorem Seen.look {w:World} {b n:Nat} {l:List Int} (h:Seen w b n l) (x:Int) (hx:(Lit.int .i64 x).wf=true):(Instr.lookup 120 (.map (some b)) (.int .i64 x) false).run Tryz.prog w=.ok (.bool (l.any (· == x))) w:=by
 obtain ⟨c,hr,hat⟩:=World.ownsMap.lookup_bool (t:=120) h law3 Tryz.underlying120 Tryz.underlying4 (zero4 w) (keyOf_int_mk Tryz.underlying3 hx)
 rw [seen_at] at hat
 injection hat with hat;injection hat with hat;rw [hr,hat]
theorem Seen.below {w w':World} {b n:Nat} {l:List Int} (h:Seen w b n l) (hb:Below w.heap.size w w'):Seen w' b n l:=h.kept (row:=none) ⟨hb.os,hb.tape,hb.output,hb.size,fun i hi _=>hb.block i hi⟩ (by simp)
theorem Seen.set {w:World} {b n:Nat} {l:List Int} (h:Seen w b n l) {a:Addr} (ha:b ≠ a.block) (u:Value):Seen (w.setCell a u) b n l:=h.setCell ha u
end Go.Proofs.YtippdjmpkafifaaGreat
namespace Go.Proofs.YtippdjmpkafifaaGreat
open Go.RowKit Go.Maps
set_option maxHeartbeats 4000000 in
theorem loads_any (s:S) (B:Option Addr) (m d:Nat) (r:List Q) (A:Option Addr) (n c:Nat) (l:List Int) (w:World) (hs:Ints w s.A s.n s.l) (hsn:s.n≤1000000000) (hq:Reqs w B m r) (hm:m≤1000000000) (hqn:∀ q ∈ r,q.n≤1000000000) (hl:Ints w A n l) (hn:n≤1000000000) :
  Calls Tryz.prog 169 #[.agg #[.int .i64 s.day,.int .i64 s.depot,.int .i64 s.start,.int .i64 s.end_,.int .i64 s.tare,.slice s.A s.n s.c],.slice B m d,.slice A n c] w fun e w'=>Below w.heap.size w w'∧((T.load s r l=true∧∃ g,e=.returned (.slice (some ⟨g,0,none⟩) 3 3)∧w.heap.size≤g∧Three w' g (T.room r 0 l) (T.room r 1 l) (T.room r 2 l))∨(T.load s r l=false∧e=.returned (.slice none 0 0))):=by
 have hmk:=make_three
 have hmm:=@run_makeMap Tryz.prog
 have b0:=(Below.refl w.heap.size w).alloc (Nat.le_refl _) (.cells #[.int .i64 s.day,.int .i64 s.depot,.int .i64 s.start,.int .i64 s.end_,.int .i64 s.tare,.slice s.A s.n s.c] 63)
 cases h1:(T.check s == 0)
 ·have HF:=Lib.hid (show T.load s r l=false by simp [T.load,h1])
  have q1:(T.check s != 0)=true:=by simp [bne,h1]
  clear h1
  go_enter Tryz.func169,Tryz.ntmps169
  go_wp2_with fail
  refine (check_any s _ (hs.below b0) hsn).mono ?_;rintro e w1 ⟨rfl,hb1'⟩;have hb1:=bel b0 hb1';clear hb1'
  go_wp2_with fail
  go_ret
  exact ⟨hb1,.inr ⟨HF.out,rfl⟩⟩
 ·have q1:(T.check s != 0)=false:=by simp [bne,h1]
  cases h2:(r.any fun q=>!T.right q)
  ·have HF:=Lib.hid (show T.load s r l=T.isSet r.length l by simp only [T.load];rw [h1,h2];simp)
   have HR:=Lib.hid (show T.allRight r from fun q hq=>by
    have:=List.any_eq_false.1 h2 q hq
    simpa using this)
   have H2:=Lib.hid h2
   clear h2
   go_enter Tryz.func169,Tryz.ntmps169
   go_wp2_with fail
   refine (check_any s _ (hs.below b0) hsn).mono ?_;rintro e w1 ⟨rfl,hb1'⟩;have hb1:=bel b0 hb1';clear hb1' b0
   go_wp2_with fail
   refine (containsQ B m d r _ (hq.below hb1) hm hqn).mono ?_;rw [H2.out];rintro e w2 ⟨rfl,hb2'⟩;have hb2:=bel hb1 hb2';clear hb2' hb1
   go_wp2_with fail
   have SL:=World.size_alloc w2 (.cells #[.int .i64 0,.int .i64 0,.int .i64 0] 3)
   go_loopw [22] (fun vi wr=>∃ k:Nat,vi=.int .i64 k∧k≤n∧Hid (T.isSet r.length l=T.isSetFrom r.length (l.take k) (l.drop k))∧Three wr w2.heap.size (T.room r 0 (l.take k)) (T.room r 1 (l.take k)) (T.room r 2 (l.take k))∧Seen wr (w2.heap.size + 1) k (l.take k)∧Below w.heap.size w wr) (fun vi _=>n - (intOf vi).toNat)
   case atStart =>
    refine ⟨0,rfl,by omega,by show _=_;rfl,?_,?_,?_⟩
    ·exact Three.below (w:=w2.alloc _) (MapKept.heap_alloc w2 _).1 ((Below.refl _ _).alloc (Nat.le_refl _) _)
    ·have hm0:=World.ownsMap_made (w2.alloc (.cells #[.int .i64 0,.int .i64 0,.int .i64 0] 3)) Tryz.prog 3 (plainElem (H:=Unit) Tryz.prog 4)
     rw [SL] at hm0
     exact hm0
    ·exact (hb2.alloc hb2.size _).alloc (by rw [SL];have:=hb2.size;omega) _
   case round =>
    obtain ⟨k,rfl,hk,hr,hT,hS,hbr⟩:=hrel
    by_cases hlt:k < n
    ·obtain ⟨adl,x,rfl,hg,c0⟩:=(hl.below hbr).at_ hlt
     have HS:=Lib.hid (T.isSet_drop (n:=r.length) hg)
     cases hbt:T.btw x 0 (m - 1)
     ·have HX:=Lib.hid (show T.load s r l=false by
       have e1:(m:Int) - 1 < r.length:=by rw [hq.1];omega
       rw [HF.out,hr.out,HS.out]
       simp [T.btw] at hbt
       by_cases h0:0≤x
       ·have:=hbt h0
        have h9:¬ x < (r.length:Int):=by rw [←hq.1];omega
        simp [h9]
       ·simp [h0])
      go_wp2_with fail
      refine (between_any _ _ _ _).mono ?_;rw [hbt];rintro e w3 ⟨rfl,rfl⟩
      go_wp2_with fail
      go_ret
      exact ⟨hbr,.inr ⟨HX.out,rfl⟩⟩
     ·obtain ⟨hx0,hxm⟩:=T.btw_iff.1 hbt
      obtain ⟨i,rfl⟩:∃ i:Nat,x=i:=⟨x.toNat,by omega⟩
      have him:i < m:=by omega
      have hwf:(Lit.int .i64 (i:Int)).wf=true:=WalkArith.wf_i64 (by omega)
      have LK:=hS.look i hwf
      cases hany:(l.take k).any (· == (i:Int))
      ·rw [hany] at LK
       have HX:=Lib.hid (show T.isSet r.length l=T.isSetFrom r.length (l.take (k + 1)) (l.drop (k + 1)) by
        have h9:(i:Int) < r.length:=by rw [←hq.1];omega
        rw [hr.out,HS.out,hany];simp [h9])
       have HG:=Lib.hid hg
       clear hg hany hr HS
       go_wp2_with fail
       refine (between_any _ _ _ _).mono ?_;rw [hbt];rintro e w3 ⟨rfl,rfl⟩
       go_wp2_with (first
        | (at_mapUpdate;refine wpList_mapUpdate_own _ rfl _ _ _ 120 rfl 3 4 law3 Tryz.underlying120 _ (w2.heap.size + 1) k _ rfl hS (by unfold maxLen;omega) _ _ _ rfl rfl (keyOf_int_mk Tryz.underlying3 hwf) _ [] (plainElem_bool Tryz.underlying4 true) ?_;intro w5 hown5 hgrow5)
        | fail)
       have hb5:Below w.heap.size w w5:=hbr.grown hgrow5 hbr.size (fun j e=>by injection e with e;have:=hb2.size;omega)
       have hT5:Three w5 w2.heap.size (T.room r 0 (l.take k)) (T.room r 1 (l.take k)) (T.room r 2 (l.take k)):=grow_blk hgrow5 hT (by simp)
       have hS5:Seen w5 (w2.heap.size + 1) (k + 1) (l.take (k + 1)):=by
        obtain ⟨hk',e⟩:=List.getElem?_eq_some_iff.1 HG.out
        rw [Seen,List.take_succ_eq_append_getElem hk',e,seen_snoc]
        exact hown5
       obtain ⟨ad,q,rfl,hgq,hwq,e0,e1,e2,e3,e4,e5,e6⟩:=(hq.below hb5).at_ him
       have R0:=Lib.hid (T.room_next (r:=r) (j:=0) HG.out)
       have R1:=Lib.hid (T.room_next (r:=r) (j:=1) HG.out)
       have R2:=Lib.hid (T.room_next (r:=r) (j:=2) HG.out)
       obtain ⟨hroom,hk1,hk2⟩:=T.right_room (HR.out q (List.mem_of_getElem? hgq))
       have K0:=Lib.hid (T.kilo_self (r:=r) (i:=i) (q:=q) (by simpa using hgq))
       have bd:=fun j=>T.room_bound HR.out j (l.take k)
       obtain ⟨bx,bX⟩:=bd 0
       obtain ⟨by_,bY⟩:=bd 1
       obtain ⟨bz,bZ⟩:=bd 2
       clear bd hgrow5 hown5 LK hT hS hbt hx0 hxm c0
       rw [List.length_take,←hl.1,Nat.min_eq_left hk] at bX bY bZ
       obtain ⟨x,hX⟩:∃ x,x=T.room r 0 (l.take k):=⟨_,rfl⟩
       obtain ⟨y,hY⟩:∃ x,x=T.room r 1 (l.take k):=⟨_,rfl⟩
       obtain ⟨z,hZ⟩:∃ x,x=T.room r 2 (l.take k):=⟨_,rfl⟩
       rw [←hX,←hY,←hZ] at hT5
       rw [←hX] at R0 bx bX
       rw [←hY] at R1 by_ bY
       rw [←hZ] at R2 bz bZ
       clear hX hY hZ hgq
       obtain ⟨no,ro,ki,se,fr,by2,QA,qn,qc,ql⟩:=q
       simp only at hroom hk1 hk2 e0 e1 e2 e3 e4 e5 e6 K0
       have d0:=hT5.c0
       have d1:=hT5.c1
       have d2:=hT5.c2
       have f0:=hT5.free
       rcases hroom with rfl | rfl | rfl
       ·go_region
        all_goals
         go_wp2_with fail
         go_roundw
         case rel =>
          refine ⟨k + 1,by go_num,by omega,HX.out,?_,?_,?_⟩
          ·rw [R0.out,R1.out,R2.out,K0.out,K0.out,K0.out]
           have hn:=hT5.set0 (x + ki)
           simp only [reduceIte,Int.add_zero,Int.reduceEq]
           exact hn
          ·exact hS5.set (by simp) _
          ·exact ((hb5.setCell (by exact hb2.size) _).drew)
         case measure=>simp [intOf];omega
       ·go_region
        all_goals
         go_wp2_with fail
         go_roundw
         case rel =>
          refine ⟨k + 1,by go_num,by omega,HX.out,?_,?_,?_⟩
          ·rw [R0.out,R1.out,R2.out,K0.out,K0.out,K0.out]
           have hn:=hT5.set1 (y + ki)
           simp only [reduceIte,Int.add_zero,Int.reduceEq]
           exact hn
          ·exact hS5.set (by simp) _
          ·exact ((hb5.setCell (by exact hb2.size) _).drew)
         case measure=>simp [intOf];omega
       ·go_region
        all_goals
         go_wp2_with fail
         go_roundw
         case rel =>
          refine ⟨k + 1,by go_num,by omega,HX.out,?_,?_,?_⟩
          ·rw [R0.out,R1.out,R2.out,K0.out,K0.out,K0.out]
           have hn:=hT5.set2 (z + ki)
           simp only [reduceIte,Int.add_zero,Int.reduceEq]
           exact hn
          ·exact hS5.set (by simp) _
          ·exact ((hb5.setCell (by exact hb2.size) _).drew)
         case measure=>simp [intOf];omega
      ·rw [hany] at LK
       have HX:=Lib.hid (show T.load s r l=false by
        rw [HF.out,hr.out,HS.out,hany];simp)
       clear hg hany hr HS
       go_wp2_with fail
       refine (between_any _ _ _ _).mono ?_;rw [hbt];rintro e w3 ⟨rfl,rfl⟩
       go_wp2_with fail
       go_ret
       exact ⟨hbr,.inr ⟨HX.out,rfl⟩⟩
    ·have e:l.take k=l:=List.take_of_length_le (by rw [←hl.1];omega)
     have hd:l.drop k=[]:=List.drop_eq_nil_of_le (by rw [←hl.1];omega)
     have HX:=Lib.hid (show T.load s r l=true by rw [HF.out,hr.out,hd];rfl)
     rw [e] at hT
     clear e hd
     go_wp2_with fail
     go_ret
     exact ⟨hbr,.inl ⟨HX.out,_,rfl,hb2.size,hT⟩⟩
  ·have HF:=Lib.hid (show T.load s r l=false by simp only [T.load];rw [h2];simp)
   have H2:=Lib.hid h2
   clear h2
   go_enter Tryz.func169,Tryz.ntmps169
   go_wp2_with fail
   refine (check_any s _ (hs.below b0) hsn).mono ?_;rintro e w1 ⟨rfl,hb1'⟩;have hb1:=bel b0 hb1';clear hb1'
   go_wp2_with fail
   refine (containsQ B m d r _ (hq.below hb1) hm hqn).mono ?_;rw [H2.out];rintro e w2 ⟨rfl,hb2⟩
   go_wp2_with fail
   go_ret
   exact ⟨bel hb1 hb2,.inr ⟨HF.out,rfl⟩⟩
end Go.Proofs.YtippdjmpkafifaaGreat
namespace Go.Proofs.YtippdjmpkafifaaGreat
open Go.RowKit
namespace T
def fitFrom (rooms:List Int):Nat→List Int→Bool
 | _,[]=>true
 | i,x :: l=>decide (x≤(rooms[i]?).getD 0) && fitFrom rooms (i + 1) l
def fits (s:S) (r:List Q) (l:List Int):Bool:=load s r l && fitFrom s.l 0 (loads r l)
def sum:List Int→Int
 | []=>0
 | x :: l=>x + sum l
def weight (s:S) (r:List Q) (l:List Int):Int:=if load s r l then s.tare + sum (loads r l) else -1
end T
theorem T.fit_drop {rooms l:List Int} {k:Nat} {x:Int} (h:l[k]? = some x):T.fitFrom rooms k (l.drop k)=(decide (x≤(rooms[k]?).getD 0) && T.fitFrom rooms (k + 1) (l.drop (k + 1))):=by
 obtain ⟨hk,e⟩:=List.getElem?_eq_some_iff.1 h
 rw [List.drop_eq_getElem_cons hk,e]
 rfl
theorem T.sum_next {l:List Int} {k:Nat} {x:Int} (h:l[k]? = some x):T.sum (l.take (k + 1))=T.sum (l.take k) + x:=by
 obtain ⟨hk,e⟩:=List.getElem?_eq_some_iff.1 h
 rw [List.take_succ_eq_append_getElem hk,e]
 have:∀ (a:List Int) (y:Int),T.sum (a ++ [y])=T.sum a + y:=by
  intro a y
  induction a with
  | nil=>simp [T.sum]
  | cons z a ih=>simp [T.sum,ih];omega
 exact this _ _
def Shf (w:World) (b:Nat) (s:S):Prop:=w.heap[b]? = some (.cells #[.int .i64 s.day,.int .i64 s.depot,.int .i64 s.start,.int .i64 s.end_,.int .i64 s.tare,.slice s.A s.n s.c] 63 (0,0))
theorem Shf.new (w:World) (s:S):Shf (w.alloc (.cells #[.int .i64 s.day,.int .i64 s.depot,.int .i64 s.start,.int .i64 s.end_,.int .i64 s.tare,.slice s.A s.n s.c] 63)) w.heap.size s:=(MapKept.heap_alloc w _).1
theorem Shf.below {w w':World} {b:Nat} {s:S} (h:Shf w b s) (hb:Below w.heap.size w w'):Shf w' b s:=blk_below hb h
theorem Shf.c4 {w:World} {b:Nat} {s:S} (h:Shf w b s):w.cell? ⟨b,4,none⟩=some (.int .i64 s.tare):=blk_cell h 4 _ rfl
theorem Shf.c5 {w:World} {b:Nat} {s:S} (h:Shf w b s):w.cell? ⟨b,5,none⟩=some (.slice s.A s.n s.c):=blk_cell h 5 _ rfl
theorem Shf.free {w:World} {b:Nat} {s:S} (h:Shf w b s) (i:Nat):w.frozen? ⟨b,i,none⟩=false:=by
 unfold Shf at h
 simp [World.frozen?,h]
theorem Shf.set4 {w:World} {b:Nat} {s:S} (h:Shf w b s) (u:Int):Shf (w.setCell ⟨b,4,none⟩ (.int .i64 u)) b { s with tare:=u }:=by
 have hlt:=lt_of_block h
 have h':w.heap[b] = .cells #[.int .i64 s.day,.int .i64 s.depot,.int .i64 s.start,.int .i64 s.end_,.int .i64 s.tare,.slice s.A s.n s.c] 63 (0,0):=by simpa [Shf,Array.getElem?_eq_getElem hlt] using h
 show (w.heap.modify b _)[b]? = _
 rw [Array.getElem?_eq_getElem (by simpa using hlt),Array.getElem_modify_self,h']
 rfl
theorem T.loads_bound {r:List Q} (h:T.allRight r) {l:List Int} {k:Nat} {x:Int} (hx:(T.loads r l)[k]? = some x):0≤x∧x≤1000000 * l.length:=by
 have b:=fun j=>T.room_bound h j l
 have b0:=b 0
 have b1:=b 1
 have b2:=b 2
 unfold T.loads at hx
 rcases k with _ | _ | _ | k <;> simp at hx <;> subst hx <;> assumption
theorem T.check_rooms {s:S} (h:T.check s=0):s.l.length≤3∧(0≤s.tare∧s.tare≤1000000)∧∀ x ∈ s.l,0≤x∧x≤1000000:=by
 unfold T.check at h
 split at h
 ·simp at h
 split at h
 ·simp at h
 split at h
 ·simp at h
 split at h
 ·simp at h
 ·rename_i h1 h2 h3 h4
  have h5:∀ x ∈ s.tare :: s.l,T.btw x 0 1000000=true:=fun x hx=>by
   have:=List.any_eq_false.1 (by simpa [T.heavy] using h4:(s.tare :: s.l).any (fun x=>!T.btw x 0 1000000)=false) x hx
   simpa using this
  refine ⟨by omega,T.btw_iff.1 (h5 _ List.mem_cons_self),fun x hx=>T.btw_iff.1 (h5 _ (List.mem_cons_of_mem _ hx))⟩
end Go.Proofs.YtippdjmpkafifaaGreat
namespace Go.Proofs.YtippdjmpkafifaaGreat
open Go.RowKit Go.Maps
set_option maxHeartbeats 4000000 in
theorem fits_any (s:S) (B:Option Addr) (m d:Nat) (r:List Q) (A:Option Addr) (n c:Nat) (l:List Int) (w:World) (hs:Ints w s.A s.n s.l) (hsn:s.n≤1000000000) (hq:Reqs w B m r) (hm:m≤1000000000) (hqn:∀ q ∈ r,q.n≤1000000000) (hl:Ints w A n l) (hn:n≤1000000000) :
  Calls Tryz.prog 121 #[.agg #[.int .i64 s.day,.int .i64 s.depot,.int .i64 s.start,.int .i64 s.end_,.int .i64 s.tare,.slice s.A s.n s.c],.slice B m d,.slice A n c] w fun e w'=>e=.returned (.bool (T.fits s r l))∧Below w.heap.size w w':=by
 obtain ⟨dy,dp,st,en,ta,SA,sn,sc,sl⟩:=s
 simp only at hs hsn ⊢
 have b0:=(Below.refl w.heap.size w).alloc (Nat.le_refl _) (.cells #[.int .i64 dy,.int .i64 dp,.int .i64 st,.int .i64 en,.int .i64 ta,.slice SA sn sc] 63)
 go_enter Tryz.func121,Tryz.ntmps121
 go_wp2_with fail
 refine (loads_any ⟨dy,dp,st,en,ta,SA,sn,sc,sl⟩ B m d r A n c l _ (hs.below b0) hsn (hq.below b0) hm hqn (hl.below b0) hn).mono ?_
 rintro e w1 ⟨hb1,hok⟩
 have hP:=(Shf.new w ⟨dy,dp,st,en,ta,SA,sn,sc,sl⟩).below hb1
 have hb:=bel b0 hb1
 clear hb1
 rcases hok with ⟨hok,g,rfl,hg,hT⟩ | ⟨hno,rfl⟩
 ·have HF:=Lib.hid (show T.fits ⟨dy,dp,st,en,ta,SA,sn,sc,sl⟩ r l=T.fitFrom sl 0 (T.loads r l) by simp [T.fits,hok])
  obtain ⟨hch,_,hri⟩:=T.load_parts hok
  have HB:=Lib.hid (fun k x=>T.loads_bound (k:=k) (x:=x) hri (l:=l))
  have HC:=Lib.hid (T.check_rooms hch)
  have hI:Ints w1 (some ⟨g,0,none⟩) 3 (T.loads r l):=hT.ints
  have hs1:=hs.below hb
  obtain ⟨G,hG⟩:∃ G:Addr,G=⟨g,0,none⟩:=⟨_,rfl⟩
  rw [←hG] at hI ⊢
  clear hG
  clear hok hch hri hT b0
  have p5:=hP.c5
  go_wp2_with fail
  go_loopw [16] (fun vi wr=>∃ k:Nat,vi=.int .i64 k∧k≤3∧Hid (T.fits ⟨dy,dp,st,en,ta,SA,sn,sc,sl⟩ r l=T.fitFrom sl k ((T.loads r l).drop k))∧w1=wr) (fun vi _=>3 - (intOf vi).toNat)
  case atStart=>exact ⟨0,rfl,by omega,HF.out,rfl⟩
  case round =>
   obtain ⟨k,rfl,hk,hr,rfl⟩:=hrel
   by_cases hlt:k < 3
   ·obtain ⟨ad,x,he,hx,c0⟩:=hI.at_ hlt
    injection he with he;subst he
    have HS:=Lib.hid (T.fit_drop (rooms:=sl) hx)
    obtain ⟨hx0,hx1⟩:=HB.out k x hx
    have hx2:x≤1000000 * 1000000000:=by rw [←hl.1] at hx1;omega
    clear hx hx1
    by_cases hx:0 < x
    ·by_cases hks:k < sn
     ·obtain ⟨ad2,y,rfl,hy,c1⟩:=hs1.at_ hks
      have hyb:=HC.out.2.2 y (List.mem_of_getElem? hy)
      have HY:=Lib.hid (show (sl[k]?).getD 0=y by rw [hy];rfl)
      clear hy
      by_cases hxy:y < x
      ·have HX:=Lib.hid (show T.fits ⟨dy,dp,st,en,ta,some ad2,sn,sc,sl⟩ r l=false by
        rw [hr.out,HS.out,HY.out];simp;omega)
       clear HS hr HF
       go_wp2_with fail
       go_ret
       exact ⟨ret_b HX.out.symm,hb⟩
      ·have HX:=Lib.hid (show T.fits ⟨dy,dp,st,en,ta,some ad2,sn,sc,sl⟩ r l=T.fitFrom sl (k + 1) ((T.loads r l).drop (k + 1)) by
        rw [hr.out,HS.out,HY.out];simp;omega)
       clear HS hr HF
       go_wp2_with fail
       go_roundw
       case rel=>exact ⟨k + 1,by go_num,by omega,HX.out,trivial⟩
       case measure=>simp [intOf];omega
     ·have HX:=Lib.hid (show T.fits ⟨dy,dp,st,en,ta,SA,sn,sc,sl⟩ r l=false by
       rw [hr.out,HS.out,List.getElem?_eq_none (by rw [←hs.1];omega)];simp;omega)
      clear HS hr HF
      go_wp2_with fail
      go_ret
      exact ⟨ret_b HX.out.symm,hb⟩
    ·have HX:=Lib.hid (show T.fits ⟨dy,dp,st,en,ta,SA,sn,sc,sl⟩ r l=T.fitFrom sl (k + 1) ((T.loads r l).drop (k + 1)) by
      rw [hr.out,HS.out]
      have h9:x≤(sl[k]?).getD 0:=by
       cases hy:sl[k]? with
       | none=>simp;omega
       | some y=>have:=(HC.out.2.2 y (List.mem_of_getElem? hy)).1;simp;omega
      simp [h9])
     clear HS hr HF
     go_wp2_with fail
     go_roundw
     case rel=>exact ⟨k + 1,by go_num,by omega,HX.out,trivial⟩
     case measure=>simp [intOf];omega
   ·have hd:(T.loads r l).drop k=[]:=List.drop_eq_nil_of_le (by simp [T.loads];omega)
    have HX:=Lib.hid (show T.fits ⟨dy,dp,st,en,ta,SA,sn,sc,sl⟩ r l=true by rw [hr.out,hd];rfl)
    clear hd hr HF
    go_wp2_with fail
    go_ret
    exact ⟨ret_b HX.out.symm,hb⟩
 ·have HF:=Lib.hid (show T.fits ⟨dy,dp,st,en,ta,SA,sn,sc,sl⟩ r l=false by simp [T.fits,hno])
  clear hno
  go_wp2_with fail
  refine wp_loop_rounds 1 ?_
  rw [rounds_succ]
  go_wp2_with fail
  go_ret
  exact ⟨ret_b HF.out.symm,hb⟩
end Go.Proofs.YtippdjmpkafifaaGreat
namespace Go.Proofs.YtippdjmpkafifaaGreat
open Go.RowKit Go.Maps
theorem Three.other {w:World} {B:Nat} {x y z:Int} (h:Three w B x y z) {a:Addr} (ha:B ≠ a.block) (u:Value):Three (w.setCell a u) B x y z:=(Below.heap_setCell w a u B ha).trans h
theorem T.weight_take {s:S} {r:List Q} {l:List Int} (h:T.load s r l=true):T.weight s r l=s.tare + T.sum ((T.loads r l).take 3):=by simp [T.weight,h,T.loads]
theorem T.sum_bound {l:List Int} {b:Int} (h:∀ x ∈ l,0≤x∧x≤b):0≤T.sum l∧T.sum l≤b * l.length:=by
 induction l with
 | nil=>simp [T.sum]
 | cons x l ih =>
  have h1:=h x List.mem_cons_self
  have h2:=ih fun y hy=>h y (List.mem_cons_of_mem _ hy)
  have e:b * ((l.length:Int) + 1)=b * l.length + b:=by rw [Int.mul_add,Int.mul_one]
  simp only [T.sum,List.length_cons]
  rw [Int.natCast_add,Int.natCast_one,e]
  omega
theorem T.take_bound {r:List Q} (h:T.allRight r) {l:List Int} {n k:Nat} (hn:n=l.length) (h9:n≤1000000000) (hk:k≤3):0≤T.sum ((T.loads r l).take k)∧T.sum ((T.loads r l).take k)≤3000000000000000:=by
 have b:=T.sum_bound (l:=(T.loads r l).take k) (b:=1000000000000000) fun x hx=>by
  obtain ⟨j,hj⟩:=List.mem_iff_getElem?.1 (List.mem_of_mem_take hx)
  have:=T.loads_bound h hj
  omega
 have hl:((T.loads r l).take k).length≤3:=by rw [List.length_take];simp [T.loads];omega
 omega
theorem eql48 (a:Option Addr) (l c:Nat) (w:World):(binOp .eql 48 (.slice a l c) (.slice none 0 0)).run Tryz.prog w=.ok (.bool a.isNone) w:=by
 exact Go.run_eql_slice_nil w 48 3 a l c Tryz.underlying48
set_option maxHeartbeats 4000000 in
theorem weight_any (s:S) (B:Option Addr) (m d:Nat) (r:List Q) (A:Option Addr) (n c:Nat) (l:List Int) (w:World) (hs:Ints w s.A s.n s.l) (hsn:s.n≤1000000000) (hq:Reqs w B m r) (hm:m≤1000000000) (hqn:∀ q ∈ r,q.n≤1000000000) (hl:Ints w A n l) (hn:n≤1000000000) :
  Calls Tryz.prog 190 #[.agg #[.int .i64 s.day,.int .i64 s.depot,.int .i64 s.start,.int .i64 s.end_,.int .i64 s.tare,.slice s.A s.n s.c],.slice B m d,.slice A n c] w fun e w'=>e=.returned (.int .i64 (T.weight s r l))∧Below w.heap.size w w':=by
 obtain ⟨dy,dp,st,en,ta,SA,sn,sc,sl⟩:=s
 simp only at hs hsn ⊢
 have b0:=(Below.refl w.heap.size w).alloc (Nat.le_refl _) (.cells #[.int .i64 dy,.int .i64 dp,.int .i64 st,.int .i64 en,.int .i64 ta,.slice SA sn sc] 63)
 have SZ:=World.size_alloc w (.cells #[.int .i64 dy,.int .i64 dp,.int .i64 st,.int .i64 en,.int .i64 ta,.slice SA sn sc] 63)
 have heq:=eql48
 go_enter Tryz.func190,Tryz.ntmps190
 go_wp2_with fail
 refine (loads_any ⟨dy,dp,st,en,ta,SA,sn,sc,sl⟩ B m d r A n c l _ (hs.below b0) hsn (hq.below b0) hm hqn (hl.below b0) hn).mono ?_
 rintro e w1 ⟨hb1,hok⟩
 have hP:=(Shf.new w ⟨dy,dp,st,en,ta,SA,sn,sc,sl⟩).below hb1
 have hb:=bel b0 hb1
 clear hb1
 rcases hok with ⟨hok,g,rfl,hg,hT⟩ | ⟨hno,rfl⟩
 ·have HF:=Lib.hid (T.weight_take hok)
  obtain ⟨hch,_,hri⟩:=T.load_parts hok
  have HB:=Lib.hid (fun k (hk:k≤3)=>T.take_bound (k:=k) hri hl.1 hn hk)
  have HC:=(T.check_rooms hch).2.1
  simp only at HC
  have HG:=Lib.hid hg
  clear hok hch hri b0 hg
  go_wp2_with fail
  go_loopw [18] (fun vi wr=>∃ k:Nat,vi=.int .i64 k∧k≤3∧Shf wr w.heap.size ⟨dy,dp,st,en,ta + T.sum ((T.loads r l).take k),SA,sn,sc,sl⟩∧Three wr g (T.room r 0 l) (T.room r 1 l) (T.room r 2 l)∧Below w.heap.size w wr) (fun vi _=>3 - (intOf vi).toNat)
  case atStart=>exact ⟨0,rfl,by omega,by simpa [T.sum] using hP,hT,hb⟩
  case round =>
   obtain ⟨k,rfl,hk,hP,hT,hb⟩:=hrel
   have hI:Ints wr (some ⟨g,0,none⟩) 3 (T.loads r l):=hT.ints
   obtain ⟨tk,htk⟩:∃ x,x=T.sum ((T.loads r l).take k):=⟨_,rfl⟩
   have B0:=HB.out k hk
   rw [←htk] at B0 hP
   have p4:=hP.c4
   simp only at p4
   have pf:=hP.free
   by_cases hlt:k < 3
   ·obtain ⟨ad,x,he,hx,c0⟩:=hI.at_ hlt
    injection he with he;subst he
    have HS:=Lib.hid (T.sum_next hx)
    have B1:=HB.out (k + 1) hlt
    rw [HS.out,←htk] at B1
    rw [←htk] at HS
    rw [add_zero_block] at c0
    clear hx htk hI
    go_wp2_with fail
    go_roundw
    case rel =>
     refine ⟨k + 1,by go_num,by omega,?_,hT.other (by have:=HG.out;show g ≠ w.heap.size;omega) _,hb.setCell (Nat.le_refl _) _⟩
     have hn:=hP.set4 (ta + tk + x)
     simp only at hn
     rw [HS.out,←Int.add_assoc]
     exact hn
    case measure=>simp [intOf];omega
   ·have hk3:k=3:=by omega
    have HX:=Lib.hid (show T.weight ⟨dy,dp,st,en,ta,SA,sn,sc,sl⟩ r l=ta + tk by rw [HF.out,htk,hk3])
    clear htk HF hI
    go_wp2_with fail
    go_ret
    exact ⟨ret_i HX.out.symm,hb⟩
 ·have HF:=Lib.hid (show T.weight ⟨dy,dp,st,en,ta,SA,sn,sc,sl⟩ r l=-1 by simp [T.weight,hno])
  clear hno
  go_wp2_with fail
  go_ret
  exact ⟨ret_i HF.out.symm,hb⟩
end Go.Proofs.YtippdjmpkafifaaGreat
namespace Go.Proofs.YtippdjmpkafifaaGreat
open Go.RowKit
theorem T.isSetFrom_iff {n:Int}:∀ (l b:List Int),T.isSetFrom n b l=true ↔ (∀ x ∈ l,0≤x∧x < n)∧l.Nodup∧∀ x ∈ l,x ∉ b:=by
 intro l
 induction l with
 | nil=>intro b;simp [T.isSetFrom]
 | cons y l ih =>
  intro b
  simp only [T.isSetFrom,Bool.and_eq_true,decide_eq_true_eq,Bool.not_eq_true',List.any_eq_false,beq_iff_eq,ih,List.mem_cons,List.nodup_cons,List.mem_append,forall_eq_or_imp]
  constructor
  ·rintro ⟨h1,h2,h3,h4,h5,h6⟩
   refine ⟨⟨⟨h1,h2⟩,h4⟩,⟨fun hy=>h6 y hy (Or.inr (Or.inl rfl)),h5⟩,fun hb=>h3 y hb rfl,fun x hx hb=>h6 x hx (Or.inl hb)⟩
  ·rintro ⟨⟨⟨h1,h2⟩,h4⟩,⟨h7,h5⟩,h3,h6⟩
   refine ⟨h1,h2,fun x hx e=>h3 (e ▸ hx),h4,h5,fun x hx hb=>?_⟩
   rcases hb with hb | hb | hb
   ·exact h6 x hx hb
   ·subst hb;exact h7 hx
   ·simp at hb
theorem T.isSet_iff {n:Int} {l:List Int}:T.isSet n l=true ↔ (∀ x ∈ l,0≤x∧x < n)∧l.Nodup:=by
 unfold T.isSet
 rw [T.isSetFrom_iff]
 simp
theorem T.load_iff {s:S} {r:List Q} {l:List Int}:T.load s r l=true ↔ T.check s=0∧((∀ x ∈ l,0≤x∧x < (r.length:Int))∧l.Nodup)∧T.allRight r:=by
 constructor
 ·intro h
  obtain ⟨h1,h2,h3⟩:=T.load_parts h
  exact ⟨h1,T.isSet_iff.1 h2,h3⟩
 ·rintro ⟨h1,h2,h3⟩
  exact T.load_mk h1 (T.isSet_iff.2 h2) h3
theorem T.load_sub {s:S} {r:List Q} {l m:List Int} (h:T.load s r l=true) (hs:m.Sublist l):T.load s r m=true:=by
 obtain ⟨h1,⟨h2,h3⟩,h4⟩:=T.load_iff.1 h
 exact T.load_iff.2 ⟨h1,⟨fun x hx=>h2 x (hs.subset hx),h3.sublist hs⟩,h4⟩
theorem T.room_sub {r:List Q} (h:T.allRight r) (j:Int) {l m:List Int} (hs:m.Sublist l):T.room r j m≤T.room r j l:=by
 induction hs with
 | slnil=>exact Int.le_refl _
 | cons x _ ih=>have:=(T.kilo_bound h j x).1;simp only [T.room];omega
 | cons_cons x _ ih=>simp only [T.room];omega
theorem T.fits_iff {s:S} {r:List Q} {l:List Int}:T.fits s r l=true ↔ T.load s r l=true∧T.room r 0 l≤(s.l[0]?).getD 0∧T.room r 1 l≤(s.l[1]?).getD 0∧T.room r 2 l≤(s.l[2]?).getD 0:=by
 simp [T.fits,T.loads,T.fitFrom]
theorem T.fits_sub {s:S} {r:List Q} {l m:List Int} (h:T.fits s r l=true) (hs:m.Sublist l):T.fits s r m=true:=by
 obtain ⟨h0,h1,h2,h3⟩:=T.fits_iff.1 h
 obtain ⟨_,_,hr⟩:=T.load_parts h0
 have k:=fun j=>T.room_sub hr j hs
 have k0:=k 0
 have k1:=k 1
 have k2:=k 2
 exact T.fits_iff.2 ⟨T.load_sub h0 hs,by omega,by omega,by omega⟩
theorem T.weight_eq {s:S} {r:List Q} {l:List Int} (h:T.load s r l=true):T.weight s r l=s.tare + T.room r 0 l + T.room r 1 l + T.room r 2 l:=by
 simp [T.weight,h,T.loads,T.sum];omega
theorem T.weight_sub {s:S} {r:List Q} {l m:List Int} (h:T.load s r l=true) (hs:m.Sublist l):T.weight s r m≤T.weight s r l:=by
 obtain ⟨_,_,hr⟩:=T.load_parts h
 have k:=fun j=>T.room_sub hr j hs
 have k0:=k 0
 have k1:=k 1
 have k2:=k 2
 rw [T.weight_eq h,T.weight_eq (T.load_sub h hs)]
 omega
theorem T.weight_bound {s:S} {r:List Q} {l:List Int} (h:T.load s r l=true) (hl:l.length≤1000):0≤T.weight s r l∧T.weight s r l≤4000000000:=by
 obtain ⟨hc,_,hr⟩:=T.load_parts h
 have ht:=(T.check_rooms hc).2.1
 have k:=fun j=>T.room_bound hr j l
 have k0:=k 0
 have k1:=k 1
 have k2:=k 2
 rw [T.weight_eq h]
 omega
end Go.Proofs.YtippdjmpkafifaaGreat
