import Derived.Test.YtippdjmpkafifaaGreatCT13
import Derived.Test.YtippdjmpkafifaaGreatCT5
import Derived.Lib.LazyBuf
import Derived.Test.YtippdjmpkafifaaGreatCT7
import Derived.Deep.RegionHeld3
import Derived.Deep.RegionWith
import Derived.Test.YtippdjmpkafifaaGreatCT11
set_option maxRecDepth 100000
set_option maxHeartbeats 64000000
namespace Go.Proofs.YtippdjmpkafifaaGreat
open Go.RowKit
namespace K
def dN (lost:List Int):Nat->List S->List S
 | _,[]=>[]
 | i,s :: ss=>if lost.contains (i:Int)=true then dN lost (i + 1) ss else s :: dN lost (i + 1) ss
def dM (nd:Int) (l:List Ro) (ss:List S) (r:List Q) (lost:List Int):Int:=if dZ ss.length (-1) lost=true then aH nd l ss r else 1
structure Kp where
 kept:List Int
 served:List Q
 dG:List (Int × Tr)
 reasons:List (List (Int × List Int × List Lb))
def Kp.zero:Kp:=⟨[],[],[],[]⟩
def kL (nd:Int) (l:List Ro) (rest:List S) (k:Kp) (x:Q):Bool:=(plan nd l rest (k.served ++ [x])).2 == 0
def lm (nd:Int) (l:List Ro) (rest:List S) (i:Nat) (x:Q) (k:Kp):Kp :=
 if kL nd l rest k x=true then ⟨k.kept ++ [(i:Int)],k.served ++ [x],(plan nd l rest (k.served ++ [x])).1.map λt=>((t.1:Int),t.2),k.reasons⟩
 else ⟨k.kept,k.served,k.dG,k.reasons ++ [(refute nd l rest (k.served ++ [x])).1.map λb=>((b.1:Int),b.2)]⟩
def iR (nd:Int) (l:List Ro) (rest:List S):Nat->List Q->Kp->Kp
 | _,[],k=>k
 | i,x :: r,k=>iR nd l rest (i + 1) r (lm nd l rest i x k)
def cZ (nd:Int) (l:List Ro) (ss:List S) (r:List Q) (lost:List Int):Kp × Int :=
 if dM nd l ss r lost=0 then (iR nd l (dN lost 0 ss) 0 r Kp.zero,0) else (Kp.zero,dM nd l ss r lost)
def mG (nd:Int) (l:List Ro) (rest:List S) (kept:List Int) (dG:List (Int × Tr)):Nat->List Q->List Q->List (List (Int × List Int × List Lb))->Bool
 | _,[],sv,_=>checks nd l rest sv dG == 0
 | i,x :: r,sv,rs=>if kept.contains (i:Int)=true then mG nd l rest kept dG (i + 1) r (sv ++ [x]) rs
  else (rs.head?.any λb=>refutes nd l rest (sv ++ [x]) b) && mG nd l rest kept dG (i + 1) r sv rs.tail
def lU (nd:Int) (l:List Ro) (ss:List S) (r:List Q) (lost kept:List Int) (dG:List (Int × Tr)) (reasons:List (List (Int × List Int × List Lb))):Bool :=
 (dM nd l ss r lost == 0) && (dZ r.length (-1) kept && ((kept.length + reasons.length == r.length) && mG nd l (dN lost 0 ss) kept dG 0 r [] reasons))
section
variable {nd : Int} {l : List Ro} {ss rest : List S} {r : List Q} {lost kept : List Int}
theorem uS:∀ (ss:List S) (i:Nat),(dN lost i ss).Sublist ss
 | [],_=>List.Sublist.refl _
 | s :: ss,i=>by
  rw [dN];split
  ·exact (uS ss (i + 1)).cons _
  ·exact (uS ss (i + 1)).cons_cons _
theorem BQ (h:dM nd l ss r lost=0):dZ ss.length (-1) lost=true/\aH nd l ss r=0:=by
 unfold dM at h;split at h
 ·exact ⟨‹_›,h⟩
 ·cases h
theorem JW {ss':List S} {r':List Q} (h:aH nd l ss r=0) (hs:ss'.Sublist ss) (hr:r'.Sublist r):aH nd l ss' r'=0:=by
 obtain ⟨h1,h2,h3,h4,h5⟩:=gQ h;exact aan h1 (Nat.le_trans hs.length_le h2) (λs g=>h3 s (hs.subset g)) (λq g=>h4 q (hr.subset g)) (Nat.le_trans hr.length_le h5)
structure GK (nd:Int) (l:List Ro) (rest:List S) (r0:List Q) (i:Nat) (k:Kp):Prop where
 served:k.served=k.kept.map (req r0)
 Hl:k.kept.Pairwise (· < ·)
 lt:∀ j ∈ k.kept,0<=j/\j < (i:Int)
 len:k.kept.length + k.reasons.length=i
 dG:checks nd l rest k.served k.dG=0
theorem af' {r0:List Q} {i:Nat} {x:Q} {k:Kp} (hx:r0[i]? = some x) (h:GK nd l rest r0 i k):GK nd l rest r0 (i + 1) (lm nd l rest i x k):=by
 unfold lm;split
 ·rename_i hy
  unfold kL at hy;refine ⟨?_,?_,?_,?_,ahZ (beq_iff_eq.1 hy)⟩
  ·show k.served ++ [x] = (k.kept ++ [(i:Int)]).map (req r0);rw [List.map_append,h.served,List.map_singleton,aaV hx]
  ·show (k.kept ++ [(i:Int)]).Pairwise (· < ·);exact List.pairwise_append.2 ⟨h.Hl,List.pairwise_singleton _ _,λa ha b hb=>by rw [List.mem_singleton.1 hb];exact (h.lt a ha).2⟩
  ·intro j hj;rcases List.mem_append.1 hj with hj | hj
   ·have:=h.lt j hj;omega
   ·rw [List.mem_singleton.1 hj];omega
  ·show (k.kept ++ [(i:Int)]).length + k.reasons.length=i + 1;have:=h.len;rw [List.length_append,List.length_singleton];omega
 ·refine ⟨h.served,h.Hl,λj hj=>by have:=h.lt j hj;omega,?_,h.dG⟩;show k.kept.length + (k.reasons ++ [_]).length=i + 1;have:=h.len;rw [List.length_append,List.length_singleton];omega
theorem age (h:aH nd l rest [] = 0) (r0:List Q):GK nd l rest r0 0 Kp.zero:=by
 refine ⟨rfl,List.Pairwise.nil,λj hj=>(by cases hj),rfl,?_⟩;show checks nd l rest [] [] = 0;unfold checks;rw [if_pos h];rfl
def bV (nd:Int) (l:List Ro) (rest:List S) (r:List Q) (i:Nat):Kp:=iR nd l rest 0 (r.take i) Kp.zero
theorem Qs:∀ (a b:List Q) (i:Nat) (k:Kp),iR nd l rest i (a ++ b) k=iR nd l rest (i + a.length) b (iR nd l rest i a k)
 | [],b,i,k=>rfl
 | x :: a,b,i,k=>by
  rw [List.cons_append,iR,iR,Qs a b,List.length_cons];congr 1;omega
theorem xg {i:Nat} {x:Q} (hx:r[i]? = some x):bV nd l rest r (i + 1)=lm nd l rest i x (bV nd l rest r i):=by
 have hlt:i < r.length:=(zE.1 hx).1;unfold bV;rw [List.take_add_one,hx,Qs,List.length_take,Nat.min_eq_left (Nat.le_of_lt hlt),Nat.zero_add];rfl
theorem BJ:bV nd l rest r r.length=iR nd l rest 0 r Kp.zero:=by unfold bV;rw [List.take_length]
theorem agd {i:Nat} (hi:i<=r.length):iR nd l rest 0 r Kp.zero=iR nd l rest i (r.drop i) (bV nd l rest r i):=by
 unfold bV;conv=>lhs;rw [<-List.take_append_drop i r]
 rw [Qs,List.length_take,Nat.min_eq_left hi,Nat.zero_add]
theorem BK (h:aH nd l rest [] = 0) {i:Nat} (hi:i<=r.length):GK nd l rest r i (bV nd l rest r i):=by
 induction i with
 | zero=>exact age h r
 | succ i ih =>
  have hx:r[i]? = some r[i]:=zF hi;rw [xg hx];exact af' hx (ih (by omega))
theorem YY:∀ (r:List Q) (i:Nat) (k:Kp),∃ K' R',(iR nd l rest i r k).kept=k.kept ++ K'/\(∀ j ∈ K',(i:Int)<=j)/\(iR nd l rest i r k).reasons=k.reasons ++ R'
 | [],i,k=>⟨[],[],by rw [List.append_nil];rfl,λj hj=>(by cases hj),by rw [List.append_nil];rfl⟩
 | x :: r,i,k=>by
  obtain ⟨K',R',h1,h2,h3⟩:=YY r (i + 1) (lm nd l rest i x k);rw [iR,h1,h3];unfold lm;split
  ·exact ⟨(i:Int) :: K',R',by simp,λj hj=>by
    rcases List.mem_cons.1 hj with rfl | hj
    ·exact Int.le_refl _
    ·have:=h2 j hj;omega,rfl⟩
  ·exact ⟨K',((refute nd l rest (k.served ++ [x])).1.map λb=>((b.1:Int),b.2)) :: R',rfl,λj hj=>by have:=h2 j hj;omega,by rw [List.append_assoc];rfl⟩
theorem agb (hp:aH nd l rest [] = 0) {i:Nat} {x:Q} (hx:r[i]? = some x) :
  ((iR nd l rest 0 r Kp.zero).kept.contains (i:Int)=kL nd l rest (bV nd l rest r i) x) /\
  (kL nd l rest (bV nd l rest r i) x=false->(iR nd l rest 0 r Kp.zero).reasons[(bV nd l rest r i).reasons.length]? = some ((refute nd l rest ((bV nd l rest r i).served ++ [x])).1.map λb=>((b.1:Int),b.2))):=by
 have hlt:i < r.length:=(zE.1 hx).1;have hk:=BK (nd:=nd) (l:=l) (rest:=rest) (r:=r) hp (Nat.le_of_lt hlt);obtain ⟨K',R',h1,h2,h3⟩:=YY (nd:=nd) (l:=l) (rest:=rest) (r.drop (i + 1)) (i + 1) (bV nd l rest r (i + 1));rw [agd (nd:=nd) (l:=l) (rest:=rest) (i:=i + 1) hlt,h1,h3,xg hx];have hn:((bV nd l rest r i).kept).contains (i:Int)=false:=by
  rw [Bool.eq_false_iff];intro h;have:=hk.lt _ (List.contains_iff_mem.1 h);omega
 have hn':K'.contains (i:Int)=false:=by
  rw [Bool.eq_false_iff];intro h;have:=h2 _ (List.contains_iff_mem.1 h);omega
 unfold lm;cases hy:kL nd l rest (bV nd l rest r i) x
 ·rw [if_neg (by simp)];refine ⟨?_,λ_=>?_⟩
  ·show ((bV nd l rest r i).kept ++ K').contains (i:Int)=false;rw [Bool.eq_false_iff];intro h;rcases List.mem_append.1 (List.contains_iff_mem.1 h) with h | h
   ·rw [List.contains_iff_mem.2 h] at hn;cases hn
   ·rw [List.contains_iff_mem.2 h] at hn';cases hn'
  ·show ((bV nd l rest r i).reasons ++ [_] ++ R')[(bV nd l rest r i).reasons.length]? = _;rw [List.append_assoc,List.getElem?_append_right (zG _),Nat.sub_self];rfl
 ·rw [if_pos rfl];refine ⟨?_,λh=>by cases h⟩;exact List.contains_iff_mem.2 (List.mem_append_left _ (List.mem_append_right _ (List.mem_singleton_self _)))
theorem ajh (hp:aH nd l rest [] = 0) {i:Nat} {x:Q} (hx:r[i]? = some x):((bV nd l rest r i).served ++ [x]).Sublist r:=by
 have hlt:i < r.length:=(zE.1 hx).1;have hk:=BK (nd:=nd) (l:=l) (rest:=rest) (r:=r) hp (Nat.le_of_lt hlt);rw [hk.served,show [x] = [(i:Int)].map (req r) by rw [List.map_singleton,aaV hx],<-List.map_append];refine ahS ?_ λj hj=>?_
 ·exact List.pairwise_append.2 ⟨hk.Hl,List.pairwise_singleton _ _,λa ha b hb=>by rw [List.mem_singleton.1 hb];exact (hk.lt a ha).2⟩
 ·rcases List.mem_append.1 hj with hj | hj
  ·have:=hk.lt j hj;omega
  ·rw [List.mem_singleton.1 hj];omega
theorem ag_ (hp:aH nd l rest r=0) (hs:rest.length<=4) (hr:r.length<=4) {i:Nat} {x:Q} (hx:r[i]? = some x) (hy:kL nd l rest (bV nd l rest r i) x=false) :
  (plan nd l rest ((bV nd l rest r i).served ++ [x])).2=4/\refutes nd l rest ((bV nd l rest r i).served ++ [x]) ((refute nd l rest ((bV nd l rest r i).served ++ [x])).1.map λb=>((b.1:Int),b.2))=true:=by
 have hsub:=ajh (FB hp (List.nil_sublist r)) hx;have h4:(plan nd l rest ((bV nd l rest r i).served ++ [x])).2=4:=by
  rcases ahY (FB hp hsub) with h | h
  ·unfold kL at hy;rw [h] at hy;cases hy
  ·exact h
 exact ⟨h4,(aii hs (Nat.le_trans hsub.length_le hr) h4).2⟩
theorem YW (hp:aH nd l rest r=0) (hs:rest.length<=4) (hr:r.length<=4):∀ (n i:Nat),i + n=r.length ->
  mG nd l rest (iR nd l rest 0 r Kp.zero).kept (iR nd l rest 0 r Kp.zero).dG i (r.drop i) (bV nd l rest r i).served ((iR nd l rest 0 r Kp.zero).reasons.drop (bV nd l rest r i).reasons.length)=true
 | 0,i,h=>by
  obtain rfl:i=r.length:=by omega
  rw [List.drop_length,BJ];have:=(BK (nd:=nd) (l:=l) (rest:=rest) (r:=r) (FB hp (List.nil_sublist r)) (zG _)).dG;rw [BJ] at this;show (checks nd l rest _ _ == 0)=true;rw [this];rfl
 | n + 1,i,h=>by
  have hlt:i < r.length:=by omega
  have hx:r[i]? = some r[i]:=zF hlt;have ih:=YW hp hs hr n (i + 1) (by omega);obtain ⟨g1,g2⟩:=agb (nd:=nd) (l:=l) (rest:=rest) (r:=r) (FB hp (List.nil_sublist r)) hx;rw [List.drop_eq_getElem_cons hlt,mG,g1];rw [xg hx] at ih;unfold lm at ih;cases hy:kL nd l rest (bV nd l rest r i) r[i]
  ·rw [hy,if_neg (by simp)] at ih;rw [if_neg (by simp)];have hg:=g2 hy;obtain ⟨hgl,hge⟩:=zE.1 hg;rw [List.drop_eq_getElem_cons hgl,hge];show ((refutes nd l rest ((bV nd l rest r i).served ++ [r[i]]) _) && _)=true;rw [(ag_ hp hs hr hx hy).2,Bool.true_and];simpa using ih
  ·rw [hy,if_pos rfl] at ih;rw [if_pos rfl];exact ih
theorem Y0 (hs:ss.length<=4) (hr:r.length<=4) (h:dM nd l ss r lost=0):lU nd l ss r lost (cZ nd l ss r lost).1.kept (cZ nd l ss r lost).1.dG (cZ nd l ss r lost).1.reasons=true:=by
 obtain ⟨h1,h2⟩:=BQ h;have hp:=JW h2 (uS (lost:=lost) ss 0) (List.Sublist.refl r);have hk:=BK (nd:=nd) (l:=l) (rest:=dN lost 0 ss) (r:=r) (FB hp (List.nil_sublist r)) (zG _);rw [BJ] at hk;unfold lU cZ;rw [if_pos h,h];simp only [Bool.and_eq_true];refine ⟨rfl,Dx.2 ⟨hk.Hl,λj hj=>by have:=hk.lt j hj;omega⟩,?_,?_⟩
 ·rw [beq_iff_eq];exact hk.len
 ·have:=YW hp (Nat.le_trans (uS (lost:=lost) ss 0).length_le hs) hr r.length 0 (by omega);exact this
theorem Y1 (h:dM nd l ss r lost ≠ 0) (kept:List Int) (dG:List (Int × Tr)) (reasons:List (List (Int × List Int × List Lb))):lU nd l ss r lost kept dG reasons=false:=by
 unfold lU;have:(dM nd l ss r lost == 0)=false:=by simpa using h
 rw [this,Bool.false_and]
theorem filter_none {v:List Int} {i:Int} (h:∀ j ∈ v,i<=j):v.filter (λj=>decide (j < i))=[]:=by
 rw [List.filter_eq_nil_iff];intro j hj;have:=h j hj;simp;omega
theorem NM {i:Int}:∀ {v:List Int},v.Pairwise (· < ·)->v.filter (λj=>decide (j < i + 1))=if v.contains i=true then v.filter (λj=>decide (j < i)) ++ [i] else v.filter (λj=>decide (j < i))
 | [],_=>rfl
 | a :: v,h=>by
  obtain ⟨h1,h2⟩:=List.pairwise_cons.1 h;have ih:=NM (i:=i) h2;by_cases e:a < i
  ·have e1:a < i + 1:=by omega
   have e2:(a :: v).contains i=v.contains i:=by
    rw [List.contains_cons];have:(i == a)=false:=by simp;omega
    rw [this,Bool.false_or]
   rw [List.filter_cons_of_pos (by simpa using e1),ih,e2,List.filter_cons_of_pos (by simpa using e)];split <;> rfl
  ·have hall:∀ j ∈ v,i + 1<=j:=λj hj=>by have:=h1 j hj;omega
   by_cases e3:a=i
   ·subst e3;rw [List.filter_cons_of_pos (by simp;omega),filter_none hall,if_pos (by simp),List.filter_cons_of_neg (by simp),filter_none (λj hj=>by have:=hall j hj;omega)];rfl
   ·have hc:¬ (a :: v).contains i=true:=λh9=>by
     rcases List.mem_cons.1 (List.contains_iff_mem.1 h9) with h9 | h9
     ·exact e3 h9.symm
     ·have:=hall i h9;omega
    rw [if_neg hc,List.filter_cons_of_neg (by simp;omega),List.filter_cons_of_neg (by simp;omega),filter_none hall,filter_none (λj hj=>by have:=hall j hj;omega)]
end
end K
theorem NP {α:Type} (f:α->List Value) (h:∀ x,∀ u ∈ f x,u.oneCell'=true) (l:List α):∀ u ∈ l.flatMap f,u.oneCell'=true:=λu hu=>by
 obtain ⟨x,-,h2⟩:=List.mem_flatMap.1 hu;exact h x u h2
theorem uQ (x:Q):∀ u ∈ Q.cells x,u.oneCell'=true:=by
 intro u hu;simp only [Q.cells,List.mem_cons,List.not_mem_nil,or_false] at hu;rcases hu with rfl | rfl | rfl | rfl | rfl | rfl | rfl <;> rfl
theorem Vw:(Tryz.prog.info? 63).map (λi=>(i.zero,i.size,i.bytes))=some (some (.agg #[.int .i64 0,.int .i64 0,.int .i64 0,.int .i64 0,.int .i64 0,.slice none 0 0]),6,64):=by kernel_rfl
theorem ad6 (a:Option Addr) (l c:Nat) (w:World):(binOp .eql 26 (.slice a l c) (.slice none 0 0)).run Tryz.prog w=.ok (.bool a.isNone) w:=Go.run_eql_slice_nil w 26 47 a l c Tryz.underlying26
theorem yu:(Tryz.prog.info? 47).map (λi=>(i.zero,i.size,i.bytes))=some (some (.agg #[.int .i64 0,.int .i64 0,.int .i64 0,.int .i64 0,.int .i64 0,.int .i64 0,.slice none 0 0]),7,72):=by kernel_rfl
theorem Vu (A:Option Addr) (n c:Nat) (xs:List Value) (w:World) (hl:Rd w 7 A n xs) (h1:∀ u ∈ xs,u.oneCell'=true) (hn:n<=1000000) :
  Calls Tryz.prog 120 #[.slice A n c] w λe w'=>(∃ v,e=.returned v/\w'.ownsRow w.heap.size 47 7 v n xs)/\Below w.heap.size w w':=by
 obtain ⟨i0,hi,hz0,hz1,hz2⟩:=info_parts yu;have heq:=ad6;cases A with
 | none =>
  go_enter Tryz.func120,Tryz.ntmps120;go_wp2_with fail;go_ret;have h0:n=0:=by
   cases n with
   | zero=>rfl
   | succ n=>obtain ⟨ad,e,_⟩:=hl.2 (by omega);cases e
  subst h0;have hl0:xs=[]:=List.length_eq_zero_iff.1 (by have:=hl.1;omega);subst hl0;exact ⟨⟨_,rfl,World.ownsRow_nil _ _ _ _⟩,Below.refl _ _⟩
 | some ad =>
  have gZ:(w.alloc (.cells #[] 47)).ownsRow w.heap.size 47 7 (.slice (some ⟨w.heap.size,0,none⟩) 0 0) 0 []:=World.ownsRow_lit w #[] 0 (zG _) (by simp only [maxLen];omega) (by simp);have hb0:=(Below.refl w.heap.size w).alloc (zG _) (.cells #[] 47);go_enter Tryz.func120,Tryz.ntmps120;go_wp2_with (at_builtin;refine jW rfl (.tmp 5) (.tmp 6) 26 rfl w.heap.size 47 i0 (.agg #[.int .i64 0,.int .i64 0,.int .i64 0,.int .i64 0,.int .i64 0,.int .i64 0,.slice none 0 0]) 7 72 Tryz.underlying26 hi hz0 hz1 hz2 rfl (by decide) _ 0 _ rfl gZ (some ad) n c xs rfl (hl.below hb0) h1 (by simp only [maxLen];omega) (by omega) (by first | (simp;done) | (simp;omega)) ?_;intro v' w4 hown4 hgrow4 yS);rw [Nat.zero_add] at hown4;have hb4:Below w.heap.size w w4:=wF hb0 (zG _) hgrow4 (λg h=>(gZ.lt g h).1);clear hgrow4 yS;go_wp2_with fail;go_ret;exact ⟨⟨_,rfl,hown4⟩,hb4⟩
theorem aa' (A:Option Addr) (n c:Nat) (l:List Int) (m:Nat) (w:World) (hl:Ints w A n l) (hn:n<=1000000000) (hm:m<=1000000000) :
  Calls Tryz.prog 107 #[.slice A n c,.int .i64 m] w λe w'=>e=.returned (.bool (K.dZ m (-1) l))/\Below w.heap.size w w':=by
 obtain ⟨R,hR⟩:=zB (K.dZ m (-1) l);rw [<-hR];have HR:=zC hR;clear hR;go_enter Tryz.func107,Tryz.ntmps107;go_wp2_with fail;go_loopw [9] (λv wr=>∃ (k:Nat) (p:Int),v=.int .i64 k/\k<=n/\Hid (R=K.dZ m p (l.drop k))/\Hid ((k=0/\p=-1)\/∃ j,k=j + 1/\l[j]? = some p/\0<=p)/\Below w.heap.size w wr) (λv _=>n - (intOf v).toNat)
 case atStart=>exact ⟨0,-1,rfl,Nat.zero_le _,(by show _=_;rw [List.drop_zero];exact HR.out),.inl ⟨rfl,rfl⟩,Below.refl _ _⟩
 case round =>
  obtain ⟨k,p,rfl,hk,hr,hp,hb⟩:=hrel;by_cases hlt:k < n
  ·obtain ⟨ad,y,hA,hg,c0⟩:=(hl.below hb).at_ hlt;have HS:=zC (show R=(!decide (y<=p) && (!decide ((m:Int)<=y) && K.dZ m y (l.drop (k + 1)))) by rw [hr.out,yx hg,K.dZ]);have HG:=zC hg;have k0:(0:Int)<=(k:Int):=by omega
   have k1:(k:Int) < (n:Int):=by omega
   by_cases h1:y < 0
   ·have HX:=zC (show R=false by
     have:decide (y<=p)=true:=by
      rcases hp.out with ⟨-,e⟩ | ⟨j,-,-,e⟩ <;> simp <;> omega
     rw [HS.out,this];rfl)
    have d1:decide (y < 0)=true:=by simp;omega
    clear hg h1;rw [hA];clear hA;go_wp2_with fail;go_ret;exact ⟨by rw [HX.out];rfl,hb⟩
   have d1:decide (y < 0)=false:=by simp;omega
   by_cases h2:(m:Int)<=y
   ·have HX:=zC (show R=false by rw [HS.out,zH h2];simp);have d2:decide ((m:Int)<=y)=true:=zH h2;clear hg h1 h2;rw [hA];clear hA;go_wp2_with fail;go_ret;exact ⟨by rw [HX.out];rfl,hb⟩
   have d2:decide ((m:Int)<=y)=false:=zI h2;have h10:0<=y:=by omega
   have aV:=zC (show (k + 1=0/\y=-1)\/∃ j,k + 1=j + 1/\l[j]? = some y/\0<=y from .inr ⟨k,rfl,hg,h10⟩);rcases hp.out with ⟨h0,hp1⟩ | ⟨j,hkj,hj,hp0⟩
   ·have d3:decide ((0:Int) < (k:Int))=false:=by simp;omega
    have NH:decide (0 < k)=false:=by simp;omega
    have HX:=zC (show R=K.dZ m y (l.drop (k + 1)) by rw [HS.out,d2,show decide (y<=p)=false by simp;omega];simp);clear hg h1 h2 h10 HS h0 hp1;rw [hA];clear hA;go_wp2_with fail;go_roundw
    case rel=>exact ⟨k + 1,y,by go_num,by omega,HX.out,aV.out,hb⟩
    case measure=>simp [intOf];omega
   ·obtain ⟨jL,p2,hA2,hj2,c2⟩:=(hl.below hb).at_ (show j < n by omega);rw [hA] at hA2;injection hA2 with hA2;subst hA2;obtain rfl:p2=p:=by rw [hj] at hj2;injection hj2 with h9;exact h9.symm
    have d3:decide ((0:Int) < (k:Int))=true:=by simp;omega
    have NH:decide (0 < k)=true:=by simp;omega
    have f2:(k:Int) - 1=(j:Int):=by omega
    have f3:IntKind.i64.wrap ((k:Int) - 1)=(j:Int):=by rw [f2];exact IntWalk.i64_in _ (by omega)
    have f4:decide ((j:Int) < 0)=false:=by simp
    have f5:max (j:Int) 0=(j:Int):=by omega
    have f6:(j:Int) < (n:Int):=by omega
    have f7:(0:Int)<=(j:Int):=by omega
    by_cases h3:y<=p2
    ·have HX:=zC (show R=false by rw [HS.out,zH h3];rfl);have d4:decide (y<=p2)=true:=zH h3;clear hg h1 h2 h3 h10 HS hj hj2 hkj;rw [hA];clear hA;go_wp2_with fail;go_ret;exact ⟨by rw [HX.out];rfl,hb⟩
    ·have HX:=zC (show R=K.dZ m y (l.drop (k + 1)) by rw [HS.out,d2,zI h3];simp);have d4:decide (y<=p2)=false:=zI h3;clear hg h1 h2 h3 h10 HS hj hj2 hkj;rw [hA];clear hA;go_wp2_with fail;go_roundw
     case rel=>exact ⟨k + 1,y,by go_num,by omega,HX.out,aV.out,hb⟩
     case measure=>simp [intOf];omega
  ·have HX:=zC (show R=true by rw [hr.out,List.drop_eq_nil_of_le (by rw [<-hl.1];omega)];rfl);have hd:decide ((k:Int) < (n:Int))=false:=by simp;omega
   have hd2:decide (k < n)=false:=by simp;omega
   go_wp2_with fail;go_ret;exact ⟨by rw [HX.out];rfl,hb⟩
theorem own_base {w:World} {base base':Nat} {e:TypeId} {size n:Nat} {v:Value} {xs:List Value} (h:w.ownsRow base' e size v n xs) (hb:base<=base'):w.ownsRow base e size v n xs:=by
 obtain ⟨hl,h1 | ⟨g,cap,cur,e1,e2,e3⟩⟩:=h
 ·exact ⟨hl,.inl h1⟩
 ·exact ⟨hl,.inr ⟨g,cap,cur,e1,Nat.le_trans hb e2,e3⟩⟩
theorem aaC {w:World} {g:Nat} {q:Q} (h:w.heap[g]? = some (.cells #[.int .i64 q.node,.int .i64 q.room,.int .i64 q.aF,.int .i64 q.service,.int .i64 q.aB,.int .i64 q.aA,.slice q.A q.n q.c] 47 (0,0))):Rd w 7 (some ⟨g,0,none⟩) 1 q.cells:=Rd.of_block h 7 1 rfl
theorem ab9 (A:Option Addr) (n c:Nat) (r:List Q) (q:Q) (w:World) (hl:Rd w 7 A n (r.flatMap Q.cells)) (hn:n<=100000) :
  Calls Tryz.prog 112 #[.slice A n c,.agg #[.int .i64 q.node,.int .i64 q.room,.int .i64 q.aF,.int .i64 q.service,.int .i64 q.aB,.int .i64 q.aA,.slice q.A q.n q.c]] w λe w'=>(∃ v,e=.returned v/\w'.ownsRow w.heap.size 47 7 v (n + 1) ((r ++ [q]).flatMap Q.cells))/\Below w.heap.size w w':=by
 obtain ⟨w1,hw1⟩:=zB (w.alloc (.cells #[.int .i64 q.node,.int .i64 q.room,.int .i64 q.aF,.int .i64 q.service,.int .i64 q.aB,.int .i64 q.aA,.slice q.A q.n q.c] 47));have b1:=zA hw1;obtain ⟨g,hg⟩:=zB w.heap.size;have hB1:jK w1 g q:=by rw [hw1,hg];exact jK.new _ _
 have bC:=zC (show ∀ w',Below w1.heap.size w1 w'->(λw':World=>w'.cell? ⟨g,0,none⟩=some (.int .i64 q.node)/\w'.cell? ⟨g,1,none⟩=some (.int .i64 q.room)/\w'.cell? ⟨g,2,none⟩=some (.int .i64 q.aF)/\w'.cell? ⟨g,3,none⟩=some (.int .i64 q.service)/\w'.cell? ⟨g,4,none⟩=some (.int .i64 q.aB)/\w'.cell? ⟨g,5,none⟩=some (.int .i64 q.aA)/\w'.cell? ⟨g,6,none⟩=some (.slice q.A q.n q.c)) w' from λw' h=>(hB1.below h).cells);obtain ⟨i0,hi,hz0,hz1,hz2⟩:=info_parts yu;have hone:=NP Q.cells uQ r;have hR0:Below w1.heap.size w1 w1:=Below.refl _ _;have uu:Below w1.heap.size w1 w1.drew:=hR0.drew;have Xa:Below w1.heap.size w1 (w1.alloc (.cells #[.int .i64 q.node,.int .i64 q.room,.int .i64 q.aF,.int .i64 q.service,.int .i64 q.aB,.int .i64 q.aA,.slice q.A q.n q.c] 47)):=(Below.refl _ _).alloc (zG _) _;have IK:Below w1.heap.size w1 (w1.alloc (.cells #[.int .i64 q.node,.int .i64 q.room,.int .i64 q.aF,.int .i64 q.service,.int .i64 q.aB,.int .i64 q.aA,.slice q.A q.n q.c] 47)).drew:=Xa.drew;have S0:=bC.out _ hR0;have aW:=bC.out _ uu;have qV:=bC.out _ Xa;have qW:=bC.out _ IK;have hLa:(w1.alloc (.cells #[.int .i64 q.node,.int .i64 q.room,.int .i64 q.aF,.int .i64 q.service,.int .i64 q.aB,.int .i64 q.aA,.slice q.A q.n q.c] 47)).drew.heap[w1.heap.size]? = some (.cells #[.int .i64 q.node,.int .i64 q.room,.int .i64 q.aF,.int .i64 q.service,.int .i64 q.aB,.int .i64 q.aA,.slice q.A q.n q.c] 47 (0,0)):=heap_alloc_new w1 _;have h63:n + 1<=maxLen:=by simp only [maxLen];omega
 have h47:(n + 1) * 72<=140737488355328:=by omega
 have HG:=zC hg;go_enter Tryz.func112,Tryz.ntmps112;go_upto_region 1 with fail;rw [<-hw1,<-hg];clear hw1 hg;have hl1:=hl.below b1
 go_region_held3 (λw':World=>w'.cell? ⟨g,0,none⟩=some (.int .i64 q.node)/\w'.cell? ⟨g,1,none⟩=some (.int .i64 q.room)/\w'.cell? ⟨g,2,none⟩=some (.int .i64 q.aF)/\w'.cell? ⟨g,3,none⟩=some (.int .i64 q.service)/\w'.cell? ⟨g,4,none⟩=some (.int .i64 q.aB)/\w'.cell? ⟨g,5,none⟩=some (.int .i64 q.aA)/\w'.cell? ⟨g,6,none⟩=some (.slice q.A q.n q.c))
  (first | with_reducible exact S2 | with_reducible exact xZ | with_reducible exact S1 | with_reducible exact qW | with_reducible exact qV | with_reducible exact aW | with_reducible exact S0 | fail)
  (first
   | (go_at_call 120;(first
     | (with_reducible (refine (Vu A n c _ _ (hl1.below uu) hone (by omega)).mono ?_;rintro e wc ⟨⟨v,rfl,hv⟩,bc⟩;have b2:=bel uu bc;have Dz:=uu.size))
     | (with_reducible (refine (Vu A n c _ _ (hl1.below IK) hone (by omega)).mono ?_;rintro e wc ⟨⟨v,rfl,hv⟩,bc⟩;have b2:=bel IK bc;have Dz:=IK.size;have hL:=az bc hLa))
     | fail);have S1:=bC.out _ b2;have xZ:=bC.out _ (bel b2 ((Below.refl _ _).alloc (zG _) (.cells #[.int .i64 q.node,.int .i64 q.room,.int .i64 q.aF,.int .i64 q.service,.int .i64 q.aB,.int .i64 q.aA,.slice q.A q.n q.c] 47)));have Np:Below wc.heap.size wc (wc.alloc (.cells #[.int .i64 q.node,.int .i64 q.room,.int .i64 q.aF,.int .i64 q.service,.int .i64 q.aB,.int .i64 q.aA,.slice q.A q.n q.c] 47)):=(Below.refl _ _).alloc (zG _) _)
   | (have h9:=hv;clear hv;apply pg (hgd:=rfl) (s:=.tmp 6) (x:=.tmp 8) (t:=26) (ho:=rfl) (base:=w1.heap.size) (e:=47) (i:=i0) (z:=(.agg #[.int .i64 0,.int .i64 0,.int .i64 0,.int .i64 0,.int .i64 0,.int .i64 0,.slice none 0 0])) (size:=7) (bytes:=72) (ht:=Tryz.underlying26) (hi:=hi) (hz:=hz0) (hsize:=hz1) (hby:=hz2) (hzs:=rfl) (hsz:=by decide) (v:=v) (n:=n) (xs:=r.flatMap Q.cells) (hs:=rfl) (A:=some ⟨_,0,none⟩) (m:=1) (c:=1) (news:=q.cells) (hx:=rfl) (h1:=uQ q) (h63:=h63) (hbytes:=h47);rotate_right 1;(first | with_reducible exact own_base h9 Dz | with_reducible exact own_base (own_below h9 Np) Dz | fail);(first | with_reducible exact aaC hL | with_reducible exact aaC (heap_alloc_new wc _) | fail);(first | with_reducible exact b2.size | with_reducible exact (bel b2 Np).size | fail);intro v7 w7 fF fE _;(first | (have b7:Below w1.heap.size w1 w7:=by with_reducible exact a_ b2 fE (λg e=>Nat.le_trans Dz ((bG h9 g e).1))) | (have b7:Below w1.heap.size w1 w7:=by with_reducible exact a_ (bel b2 Np) fE (λg e=>Nat.le_trans Dz ((bG h9 g e).1))) | fail);have S2:=bC.out _ b7)
   | fail)
 all_goals go_wp2_with fail
 all_goals go_ret
 all_goals exact ⟨⟨_,rfl,by rw [List.flatMap_append,List.flatMap_singleton];exact own_base fF b1.size⟩,bel b1 b7⟩
theorem aba (A:Option Addr) (n c:Nat) (l:List Int) (m:Nat) (w:World) (hl:Ints w A n l) (hn:n<=1000000000) (hm:m<=1000000000) :
  Calls Tryz.prog 110 #[.slice A n c,.int .i64 m] w λe w'=>e=.returned (.bool (K.dZ m (-1) l))/\Below w.heap.size w w':=by
 obtain ⟨R,hR⟩:=zB (K.dZ m (-1) l);rw [<-hR];have HR:=zC hR;clear hR;go_enter Tryz.func110,Tryz.ntmps110;go_wp2_with fail;go_loopw [5] (λv wr=>∃ (k:Nat) (p:Int),v=.int .i64 k/\k<=n/\Hid (R=K.dZ m p (l.drop k))/\Hid ((k=0/\p=-1)\/∃ j,k=j + 1/\l[j]? = some p/\0<=p)/\Below w.heap.size w wr) (λv _=>n - (intOf v).toNat)
 case atStart=>exact ⟨0,-1,rfl,Nat.zero_le _,(by show _=_;rw [List.drop_zero];exact HR.out),.inl ⟨rfl,rfl⟩,Below.refl _ _⟩
 case round =>
  obtain ⟨k,p,rfl,hk,hr,hp,hb⟩:=hrel;by_cases hlt:k < n
  ·obtain ⟨ad,y,hA,hg,c0⟩:=(hl.below hb).at_ hlt;have HS:=zC (show R=(!decide (y<=p) && (!decide ((m:Int)<=y) && K.dZ m y (l.drop (k + 1)))) by rw [hr.out,yx hg,K.dZ]);have HG:=zC hg;have k0:(0:Int)<=(k:Int):=by omega
   have k1:(k:Int) < (n:Int):=by omega
   by_cases h1:y < 0
   ·have HX:=zC (show R=false by
     have:decide (y<=p)=true:=by
      rcases hp.out with ⟨-,e⟩ | ⟨j,-,-,e⟩ <;> simp <;> omega
     rw [HS.out,this];rfl)
    have d1:decide (y < 0)=true:=by simp;omega
    clear hg h1;rw [hA];clear hA;go_wp2_with fail;go_quiet (fail);go_wp2_with fail;go_ret;exact ⟨by rw [HX.out];rfl,below_drewN hb _⟩
   have d1:decide (y < 0)=false:=by simp;omega
   by_cases h2:(m:Int)<=y
   ·have HX:=zC (show R=false by rw [HS.out,zH h2];simp);have d2:decide ((m:Int)<=y)=true:=zH h2;clear hg h1 h2;rw [hA];clear hA;go_wp2_with fail;go_quiet (fail);go_wp2_with fail;go_ret;exact ⟨by rw [HX.out];rfl,below_drewN hb _⟩
   have d2:decide ((m:Int)<=y)=false:=zI h2;have h10:0<=y:=by omega
   have aV:=zC (show (k + 1=0/\y=-1)\/∃ j,k + 1=j + 1/\l[j]? = some y/\0<=y from .inr ⟨k,rfl,hg,h10⟩);rcases hp.out with ⟨h0,hp1⟩ | ⟨j,hkj,hj,hp0⟩
   ·have d3:decide ((0:Int) < (k:Int))=false:=by simp;omega
    have NH:decide (0 < k)=false:=by simp;omega
    have HX:=zC (show R=K.dZ m y (l.drop (k + 1)) by rw [HS.out,d2,show decide (y<=p)=false by simp;omega];simp);clear hg h1 h2 h10 HS h0 hp1;rw [hA];clear hA;go_wp2_with fail;go_quiet (fail);go_wp2_with fail;go_roundw
    case rel=>exact ⟨k + 1,y,by go_num,by omega,HX.out,aV.out,below_drewN hb _⟩
    case measure=>simp [intOf];omega
   ·obtain ⟨jL,p2,hA2,hj2,c2⟩:=(hl.below hb).at_ (show j < n by omega);rw [hA] at hA2;injection hA2 with hA2;subst hA2;obtain rfl:p2=p:=by rw [hj] at hj2;injection hj2 with h9;exact h9.symm
    have d3:decide ((0:Int) < (k:Int))=true:=by simp;omega
    have NH:decide (0 < k)=true:=by simp;omega
    have f2:(k:Int) - 1=(j:Int):=by omega
    have f3:IntKind.i64.wrap ((k:Int) - 1)=(j:Int):=by rw [f2];exact IntWalk.i64_in _ (by omega)
    have f4:decide ((j:Int) < 0)=false:=by simp
    have f5:max (j:Int) 0=(j:Int):=by omega
    have f6:(j:Int) < (n:Int):=by omega
    have f7:(0:Int)<=(j:Int):=by omega
    by_cases h3:y<=p2
    ·have HX:=zC (show R=false by rw [HS.out,zH h3];rfl);have d4:decide (y<=p2)=true:=zH h3;clear hg h1 h2 h3 h10 HS hj hj2 hkj;rw [hA];clear hA;go_wp2_with fail;go_quiet (fail);go_wp2_with fail;go_ret;exact ⟨by rw [HX.out];rfl,below_drewN hb _⟩
    ·have HX:=zC (show R=K.dZ m y (l.drop (k + 1)) by rw [HS.out,d2,zI h3];simp);have d4:decide (y<=p2)=false:=zI h3;clear hg h1 h2 h3 h10 HS hj hj2 hkj;rw [hA];clear hA;go_wp2_with fail;go_quiet (fail);go_wp2_with fail;go_roundw
     case rel=>exact ⟨k + 1,y,by go_num,by omega,HX.out,aV.out,below_drewN hb _⟩
     case measure=>simp [intOf];omega
  ·have HX:=zC (show R=true by rw [hr.out,List.drop_eq_nil_of_le (by rw [<-hl.1];omega)];rfl);have hd:decide ((k:Int) < (n:Int))=false:=by simp;omega
   have hd2:decide (k < n)=false:=by simp;omega
   go_wp2_with fail;go_ret;exact ⟨by rw [HX.out];rfl,hb⟩
namespace K
theorem aaW {lost:List Int}:∀ (a b:List S) (i:Nat),dN lost i (a ++ b)=dN lost i a ++ dN lost (i + a.length) b
 | [],b,i=>rfl
 | s :: a,b,i=>by
  rw [List.cons_append,dN,dN,aaW a b,List.length_cons,show i + 1 + a.length=i + (a.length + 1) by omega];split <;> rfl
theorem aaX {lost:List Int} {ss:List S} {k:Nat} {s:S} (h:ss[k]? = some s):dN lost 0 (ss.take (k + 1))=dN lost 0 (ss.take k) ++ if lost.any (· == (k:Int))=true then [] else [s]:=by
 have hk:=(zE.1 h).1;rw [take_snoc h,aaW,List.length_take,Nat.min_eq_left (Nat.le_of_lt hk),Nat.zero_add];congr 1;have e:lost.contains (k:Int)=lost.any (· == (k:Int)):=by
  rw [Bool.eq_iff_iff,List.contains_iff_mem,List.any_eq_true];exact ⟨λh=>⟨_,h,by simp⟩,λ⟨y,h1,h2⟩=>by rw [<-beq_iff_eq.1 h2];exact h1⟩
 show (if lost.contains (k:Int)=true then [] else [s])=_;rw [e]
end K
def ja (w:World) (g:Nat) (x:Cs):Prop:=w.heap[g]? = some (.cells #[.int .i64 x.nd,.slice x.A x.n x.c,.slice x.SA x.sn x.sc,.slice x.B x.m x.d] 44 (0,0))
theorem ja.below {w w':World} {g:Nat} {x:Cs} (h:ja w g x) (hb:Below w.heap.size w w'):ja w' g x:=az hb h
theorem ja.new (w:World) (x:Cs):ja (w.alloc (.cells #[.int .i64 x.nd,.slice x.A x.n x.c,.slice x.SA x.sn x.sc,.slice x.B x.m x.d] 44)) w.heap.size x:=heap_alloc_new w _
theorem abN (x:S):∀ u ∈ S.cells x,u.oneCell'=true:=by
 intro u hu;simp only [S.cells,List.mem_cons,List.not_mem_nil,or_false] at hu;rcases hu with rfl | rfl | rfl | rfl | rfl | rfl <;> rfl
def S.g_ (s:S) (A:Option Addr) (c:Nat):S:=⟨s.day,s.ag,s.start,s.end_,s.aj,A,s.n,c,s.l⟩
def qX (w:World) (v:Value) (L:List S):Prop:=∀ s ∈ L,Ints w s.A s.n s.l/\(0 < s.n->∀ ad,s.A=some ad->v.ownBlock ≠ some ad.block)
theorem qX.below {w w':World} {v:Value} {L:List S} (h:qX w v L) (hb:Below w.heap.size w w'):qX w' v L:=λs hs=>⟨(h s hs).1.below hb,(h s hs).2⟩
theorem qX.grow {w w':World} {v v':Value} {L:List S} (h:qX w v L) (hg:w.grownBy w' v.ownBlock) (ha:v'.ownBlock=v.ownBlock\/v'.ownBlock=some w.heap.size):qX w' v' L:=λs hs=>by
 obtain ⟨h1,h3⟩:=h s hs;refine ⟨h1.grow hg λh0 ad e e2=>h3 h0 ad e e2.symm,λh0 ad e e2=>?_⟩;rcases ha with e3 | e3
 ·rw [e3] at e2;exact h3 h0 ad e e2
 ·rw [e3] at e2;injection e2 with e2;have:=h1.nM h0 e;omega
theorem qX.snoc {w:World} {v:Value} {L:List S} (h:qX w v L) {y:S} (h1:Ints w y.A y.n y.l) (h2:0 < y.n->∀ ad,y.A=some ad->v.ownBlock ≠ some ad.block):qX w v (L ++ [y]):=λs hs=>by
 rcases List.mem_append.1 hs with hs | hs
 ·exact h s hs
 ·rw [List.mem_singleton] at hs;rw [hs];exact ⟨h1,h2⟩
def Dl (w w':World) (R:List S) (er:Int) (e:Ending):Prop :=
 (∃ A n c L,e=.returned (.tuple #[.slice A n c,.int .i64 er])/\Shifts w' A n L/\L.map S.bare=R.map S.bare)/\Below w.heap.size w w'
theorem BR {w w':World} {er:Int} (hb:Below w.heap.size w w'):Dl w w' [] er (.returned (.tuple #[.slice none 0 0,.int .i64 er])) :=
 ⟨⟨none,0,0,[],rfl,⟨⟨rfl,rfl,λh=>absurd h (by decide)⟩,λs h=>(by cases h)⟩,rfl⟩,hb⟩
theorem K.adP {nd:Int} {l:List Ro} {ss:List S} {r:List Q}:K.checks nd l ss r [] = if K.aH nd l ss r=0 then (if 0 < r.length then 4 else 0) else K.aH nd l ss r:=rfl
def K.jV (nd:Int) (l:List Ro) (ss:List S) (r:List Q) (lost:List Int):List S:=if K.dM nd l ss r lost=0 then K.dN lost 0 ss else []
theorem FK (x:Cs) (LA:Option Addr) (ln lc:Nat) (lost:List Int) (w:World) (hx:bF w x) (hL:Ints w LA ln lost) (hln:ln<=1000000000) (hsn:x.sn<=1000000) (kK:∀ s ∈ x.ss,s.n<=1000000) :
  Calls Tryz.prog 45 #[.agg #[.int .i64 x.nd,.slice x.A x.n x.c,.slice x.SA x.sn x.sc,.slice x.B x.m x.d],.slice LA ln lc] w λe w'=>Dl w w' (K.jV x.nd x.l x.ss x.r lost) (K.dM x.nd x.l x.ss x.r lost) e:=by
 obtain ⟨w1,hw1⟩:=zB (w.alloc (.cells #[.int .i64 x.nd,.slice x.A x.n x.c,.slice x.SA x.sn x.sc,.slice x.B x.m x.d] 44));obtain ⟨g,hg⟩:=zB w.heap.size;have b1:=zA hw1;have hN1:ja w1 g x:=by rw [hw1,hg];exact ja.new _ _
 have p2:=af hN1 2 _ rfl;have bf:=zC hx.shifts.1.1;have aO:=zC hx.aN.1;have vN:=zC kK;clear kK;obtain ⟨ER,uj⟩:=zB (K.dM x.nd x.l x.ss x.r lost);obtain ⟨RR,hRR⟩:=zB (K.jV x.nd x.l x.ss x.r lost);rw [<-uj,<-hRR];have dV:=zC (show ER=if K.dZ x.sn (-1) lost=true then K.aH x.nd x.l x.ss x.r else 1 by rw [uj,bf.out];rfl);have HRR:=zC (show RR=if ER=0 then K.dN lost 0 x.ss else [] by rw [hRR,uj];rfl);clear uj hRR;go_enter Tryz.func45,Tryz.ntmps45;go_upto_region 1 with fail;rw [<-hw1,<-hg];clear hw1 hg;have CR:=aa' LA ln lc lost x.sn w1 (hL.below b1) hln (by omega);obtain ⟨z,hz⟩:=zB (K.dZ x.sn (-1) lost);rw [<-hz] at CR dV;clear hz;go_wp2_with fail;refine CR.mono ?_;rintro e w2 ⟨rfl,b2⟩;have aY:=hN1.below b2;have hb2:=bel b1 b2;clear CR p2 b1 b2 hN1;cases z
 ·have HX:=zC (show ER=1 from dV.out);have HY:=zC (show RR=[] by rw [HRR.out,HX.out];rfl);go_wp2_with fail;go_ret2
  rw [HX.out,HY.out];exact BR hb2
 have HE2:=zC (show ER=K.aH x.nd x.l x.ss x.r from dV.out);have p0:=af aY 0 _ rfl;have p1:=af aY 1 _ rfl;have p2:=af aY 2 _ rfl;have p3:=af aY 3 _ rfl;have CC:=Vo x none 0 0 [] w2 (hx.below hb2) ⟨⟨rfl,rfl,λh=>absurd h (by decide)⟩,λy h=>(by cases h)⟩ ⟨by decide,λy h=>(by cases h)⟩;rw [List.map_nil,K.adP,<-HE2.out,<-aO.out] at CC;clear dV;go_wp2_with fail;refine CC.mono ?_;obtain ⟨ce,hce⟩:=zB ((if ER=0 then (if 0 < x.m then 4 else 0) else ER));rw [<-hce];rintro e w3 ⟨rfl,b3⟩;have CG:=zC hce;have hN3:=aY.below b3;have hb3:=bel hb2 b3;clear CC hce p0 p1 p2 p3 aY hb2 b3;by_cases hE:ER=0;rotate_left
 ·have HY:=zC (show RR=[] by rw [HRR.out,if_neg hE]);have hcE:ce=ER:=by rw [CG.out,if_neg hE]
  subst hcE;rcases K.aam (nd:=x.nd) (l:=x.l) (ss:=x.ss) (r:=x.r) with e | e | e
  ·exact absurd (HE2.out.trans e) hE
  ·have h1:=HE2.out.trans e;subst h1;clear hE e;go_wp2_with fail;go_ret2
   rw [HY.out];exact BR hb3
  ·have h1:=HE2.out.trans e;subst h1;clear hE e;go_wp2_with fail;go_ret2
   rw [HY.out];exact BR hb3
 have HY:=zC (show RR=K.dN lost 0 x.ss by rw [HRR.out,if_pos hE]);subst hE;have d1:(ce == 1)=false:=by rw [CG.out,if_pos rfl];split <;> rfl
 have d2:(ce == 6)=false:=by rw [CG.out,if_pos rfl];split <;> rfl
 have d3:decide (ce=1)=false:=by rw [CG.out,if_pos rfl];split <;> rfl
 have d4:decide (ce=6)=false:=by rw [CG.out,if_pos rfl];split <;> rfl
 have p2:=af hN3 2 _ rfl;clear HE2;go_wp2_with fail;clear d1 d2 d3 d4 p2;go_loopw [7,33] (λv7 v33 wr=>∃ (k:Nat) (L:List S),v33=.int .i64 k/\k<=x.sn/\wr.ownsRow w3.heap.size 63 6 v7 L.length (L.flatMap S.cells)/\qX wr v7 L/\L.length<=k/\Hid (L.map S.bare=(K.dN lost 0 (x.ss.take k)).map S.bare)/\Below w3.heap.size w3 wr) (λ_ v33 _=>x.sn - (intOf v33).toNat)
 case atStart=>exact ⟨0,[],rfl,Nat.zero_le _,World.ownsRow_nil _ _ _ _,λs h=>(by cases h),Nat.zero_le _,rfl,Below.refl _ _⟩
 case round =>
  obtain ⟨k,L,rfl,hk,hown,hok,hlk,hbare,hbr⟩:=hrel;have hbw:=bel hb3 hbr;by_cases hlt:k < x.sn
  ·obtain ⟨ad,s,hA,hs,hI,c0,c1,c2,c3,c4,c5⟩:=(hx.shifts.below hbw).at_ hlt;have h_:=zC (K.aaX (lost:=lost) hs);have mW:=zC (zD hs);have k0:(0:Int)<=(k:Int):=by omega
   have k1:(k:Int) < (x.sn:Int):=by omega
   have hkt:k + 1<=x.sn:=hlt;obtain ⟨gs,hgs⟩:=zB wr.heap.size;obtain ⟨w4,hw4⟩:=zB (wr.alloc (.cells #[.int .i64 s.day,.int .i64 s.ag,.int .i64 s.start,.int .i64 s.end_,.int .i64 s.aj,.slice s.A s.n s.c] 63));have b4:=zA hw4;have hB4:aT w4 gs s:=by rw [hw4,hgs];exact heap_alloc_new _ _
   have CK:=NC LA ln lc lost k w4 ((hL.below hbw).below b4) hln;obtain ⟨z,hz⟩:=zB (lost.any (· == (k:Int)));rw [<-hz] at CK h_;have kX:=hI.below b4;have ae_:wr.heap.size<=gs:=by rw [hgs];exact zG _
   clear hz hs hI;rw [hA];have HA:=zC hA;clear hA;go_upto_region 10 with fail;rw [<-hw4,<-hgs];clear hw4 hgs c0 c1 c2 c3 c4 c5;go_wp2_with fail;refine CK.mono ?_;rintro e w5 ⟨rfl,b5⟩;have aU:=bel b4 b5;cases z;rotate_left
   ·have HB:=zC (show L.map S.bare=(K.dN lost 0 (x.ss.take (k + 1))).map S.bare by rw [h_.out,if_pos rfl,List.append_nil];exact hbare.out);have hown5:=own_below hown aU;have afr:=hok.below aU;have hb5:=bel hbr aU;clear CK hown hok;go_wp2_with fail;go_roundw
    case rel=>(go_light;exact ⟨k + 1,L,by go_num,hkt,hown5,afr,by omega,HB.out,hb5⟩)
    case measure=>(go_light;simp [intOf];omega)
   ·have dF:aT w5 gs s:=hB4.below b5;have Iw:=dF;have hIL:=zC kX.1;obtain ⟨s0,s1,s2,s3,s4,s5⟩:=dF.cells;have sf:=gI dF;have CL:=yw s.A s.n s.c s.l w5 (kX.below b5) (by have:=vN.out s mW.out;omega);clear CK;go_wp2_with fail;refine CL.mono ?_;rintro e w6 ⟨⟨v,rfl,hv⟩,b6⟩;obtain ⟨A6,c6,rfl,eG,Az⟩:=dh hv;have fP:=dF.below b6;have Aj:=bel aU b6;have aX:=b5.size;clear s0 s1 s2 s3 s4 s5 sf hB4 dF CL;obtain ⟨s0,s1,s2,s3,s4,s5⟩:=fP.cells;have sf:=gI fP;obtain ⟨w7,hw7⟩:=zB (w6.setCell ⟨gs,5,none⟩ (.slice A6 s.n c6));have b7:Below wr.heap.size wr w7:=by rw [hw7];exact Aj.setCell (p:=⟨gs,5,none⟩) ae_ _
    have jD:aT w7 gs ⟨s.day,s.ag,s.start,s.end_,s.aj,A6,s.n,c6,s.l⟩:=by rw [hw7];exact bg fP 5 _
    have ae':gs < w5.heap.size:=lt_of_block Iw;have oG:Ints w7 A6 s.n s.l:=by
     rw [hw7];exact (show Ints w6 A6 s.n s.l from ⟨hIL.out,eG⟩).set _ (λad e=>by have:=(Az ad.block (by rw [e];rfl)).1;omega)
    have Yf:0 < s.n->∀ ad,A6=some ad->u7.ownBlock ≠ some ad.block:=λ_ ad e e2=>by
     have h1:=(Az ad.block (by rw [e];rfl)).1;have h2:=(bG hown _ e2).2;have:=aU.size;omega
    have fF:=own_below hown b7;have Yg:=hok.below b7;obtain ⟨q0,q1,q2,q3,q4,q5⟩:=jD.cells;obtain ⟨w8,hw8⟩:=zB (w7.alloc (.cells #[.int .i64 s.day,.int .i64 s.ag,.int .i64 s.start,.int .i64 s.end_,.int .i64 s.aj,.slice A6 s.n c6] 63));obtain ⟨g8,gY⟩:=zB w7.heap.size;have b8:=zA hw8;have lQ:w8.heap[g8]? = some (.cells #[.int .i64 s.day,.int .i64 s.ag,.int .i64 s.start,.int .i64 s.end_,.int .i64 s.aj,.slice A6 s.n c6] 63 (0,0)):=by rw [hw8,gY];exact heap_alloc_new _ _
    have gu:=own_below fF b8;have Yh:=(Yg.snoc (y:=⟨s.day,s.ag,s.start,s.end_,s.aj,A6,s.n,c6,s.l⟩) oG Yf).below b8;obtain ⟨i0,hi,hz0,hz1,hz2⟩:=info_parts Vw;have iY:w3.heap.size<=w8.heap.size:=Nat.le_trans hbr.size (Nat.le_trans b7.size b8.size);have hb8:=bel hbr (bel b7 b8);have HB:=zC (show (L ++ [(⟨s.day,s.ag,s.start,s.end_,s.aj,A6,s.n,c6,s.l⟩:S)]).map S.bare=(K.dN lost 0 (x.ss.take (k + 1))).map S.bare by rw [h_.out,if_neg (by decide),List.map_append,List.map_append,hbare.out];rfl);clear hv eG Az oG Yf Yg fF hown hok ae' Iw;go_upto_region 12 with fail;rw [<-hw7];clear hw7 s0 s1 s2 s3 s4 s5 sf fP;go_wp2_with (first
     | (at_builtin;rw [<-hw8,<-gY];refine jW rfl _ _ 25 rfl w3.heap.size 63 i0 (.agg #[.int .i64 0,.int .i64 0,.int .i64 0,.int .i64 0,.int .i64 0,.slice none 0 0]) 6 64 Tryz.underlying25 hi hz0 hz1 hz2 rfl (by decide) _ L.length (L.flatMap S.cells) rfl gu (some ⟨g8,0,none⟩) 1 1 (S.cells ⟨s.day,s.ag,s.start,s.end_,s.aj,A6,s.n,c6,s.l⟩) rfl (Rd.of_block lQ 6 1 rfl) (abN _) (by simp only [maxLen];omega) (by omega) iY ?_;intro v9 w9 ku oP kZ)
     | fail)
    have bU:Below w3.heap.size w3 w9:=a_ hb8 oP (λg e=>(gu.lt g e).1);have afs:=Yh.grow oP kZ;have y7:w9.ownsRow w3.heap.size 63 6 v9 (L ++ [(⟨s.day,s.ag,s.start,s.end_,s.aj,A6,s.n,c6,s.l⟩:S)]).length ((L ++ [(⟨s.day,s.ag,s.start,s.end_,s.aj,A6,s.n,c6,s.l⟩:S)]).flatMap S.cells):=by
     rw [List.length_append,List.flatMap_append,List.flatMap_singleton];exact ku
    have hlen:(L ++ [(⟨s.day,s.ag,s.start,s.end_,s.aj,A6,s.n,c6,s.l⟩:S)]).length<=k + 1:=by rw [List.length_append,List.length_singleton];omega
    have aK:=zC hlen;clear ku oP kZ Yh gu hlen hw8 gY q0 q1 q2 q3 q4 q5;go_roundw
    case rel=>(go_light;exact ⟨k + 1,_,by go_num,hkt,y7,afs,aK.out,HB.out,bU⟩)
    case measure=>(go_light;simp [intOf];omega)
  ·have hd:decide ((k:Int) < (x.sn:Int))=false:=by simp;omega
   have hd2:decide (k < x.sn)=false:=by simp;omega
   have HB:=zC (show L.map S.bare=RR.map S.bare by rw [HY.out,hbare.out,List.take_of_length_le (by rw [<-bf.out];omega)]);obtain ⟨A9,c9,rfl,yL,-⟩:=dh hown;go_wp2_with fail;go_ret2
   exact ⟨⟨A9,L.length,c9,L,rfl,⟨⟨rfl,yL⟩,λs hs=>(hok s hs).1⟩,HB.out⟩,hbw⟩
def NB (w:World) (bl:List BV):Prop:=∀ y ∈ bl,(0 < y.vn->∀ ad,y.V=some ad->w.heap.size<=ad.block)/\(0 < y.ln->∀ ad,y.LA=some ad->w.heap.size<=ad.block)
theorem NB.snoc {w:World} {bl:List BV} (h:NB w bl) {y:BV} (h1:0 < y.vn->∀ ad,y.V=some ad->w.heap.size<=ad.block) (h2:0 < y.ln->∀ ad,y.LA=some ad->w.heap.size<=ad.block):NB w (bl ++ [y]):=λz hz=>by
 rcases List.mem_append.1 hz with hz | hz
 ·exact h z hz
 ·rw [List.mem_singleton.1 hz];exact ⟨h1,h2⟩
def Um (w w':World) (p:List (Int × List Int × List Lb)) (er:Int) (e:Ending):Prop :=
 (∃ A n c bl,e=.returned (.tuple #[.slice A n c,.int .i64 er])/\fA w' A n bl/\n<=c/\sO n bl/\bl.map BV.pr=p/\(∀ ad,A=some ad->w.heap.size<=ad.block)/\NB w bl)/\Below w.heap.size w w'
theorem aa4 {w w':World} {er:Int} (hb:Below w.heap.size w w'):Um w w' [] er (.returned (.tuple #[.slice none 0 0,.int .i64 er])) :=
 ⟨⟨none,0,0,[],rfl,⟨⟨rfl,rfl,λh=>absurd h (by omega)⟩,λy h=>by cases h⟩,zG _,⟨by omega,λy h=>by cases h⟩,rfl,(λad e=>(by cases e)),(λy h=>(by cases h))⟩,hb⟩
theorem aaH (x:Cs) (w:World) (hx:bF w x) :
  Calls Tryz.prog 22 #[.agg #[.int .i64 x.nd,.slice x.A x.n x.c],.slice x.SA x.sn x.sc,.slice x.B x.m x.d] w λe w'=>Um w w' ((K.refute x.nd x.l x.ss x.r).1.map λb=>((b.1:Int),b.2)) (K.refute x.nd x.l x.ss x.r).2 e:=by
 have hN:=Net.new w x.nd x.A x.n x.c;have p0:=hN.c0;have p1:=hN.c1;have b0:Below w.heap.size w (w.alloc (.cells #[.int .i64 x.nd,.slice x.A x.n x.c] 24)):=(Below.refl _ _).alloc (zG _) _;have CP:=ahV x _ (hx.below b0);go_enter Tryz.func22,Tryz.ntmps22;go_wp2_with fail;refine CP.mono ?_;obtain ⟨ce,hce⟩:=zB ((K.plan x.nd x.l x.ss x.r).2);rintro e w1 ⟨⟨PA,pn,pc,pl,rfl,-,-,-⟩,b1⟩;rw [<-hce];have hN1:=hN.below b1;have hb1:=bel b0 b1;clear p0 p1 b0 b1 hN CP;by_cases hz:ce=0
 ·have HX:=zC (show K.refute x.nd x.l x.ss x.r=([],7) from K.aaL (by rw [<-hce];exact hz));have hd:(ce == 0)=true:=by simp [hz]
  have hd2:decide (ce=0)=true:=by simp [hz]
  clear hce hz;go_wp2_with fail;go_ret2
  rw [HX.out];exact aa4 hb1
 by_cases lT:ce=4;rotate_left
 ·have HX:=zC (show K.refute x.nd x.l x.ss x.r=([],ce) by rw [hce] at hz lT ⊢;exact K.aaK hz lT);have hd:(ce == 0)=false:=by simp [hz]
  have hd2:(ce == 4)=false:=by simp [lT]
  clear hce hz lT;go_wp2_with fail;go_ret2
  rw [HX.out];exact aa4 hb1
 subst lT;have HR:=zC (K.aaJ hce.symm);have aJ:=zC (K.aax hce.symm);clear hce hz;have p0:=hN1.c0;have p1:=hN1.c1;go_wp2_with fail;refine (ajs x _ (hx.below hb1) aJ.out).mono ?_;rintro e w2 ⟨b,mb,gb,rfl,hp2⟩;have j_:x.m<=6:=by rw [hx.aN.1];exact (K.gQ aJ.out).2.2.2.2
 have qC:x.sn<=4:=by rw [hx.shifts.1.1];exact (K.gQ aJ.out).2.1
 have bf:=zC hx.shifts.1.1;have aO:=zC hx.aN.1;obtain ⟨ai,EF⟩:=zB (List.replicate x.sn (⟨none,0,0,[]⟩:Sh));rw [<-EF] at hp2;obtain ⟨G0,hG0⟩:=zB w.heap.size;rw [<-hG0] at hN1;rw [<-hG0];obtain ⟨B1,hB1⟩:=zB w2.heap.size;have Xr:=zC (show w.heap.size<=B1 by rw [hB1];exact Nat.le_trans hb1.size hp2.bw.size);clear p0 p1 EF hG0;go_wp2_with fail;go_loopw [11,38] (λv11 v38 wr=>∃ (s:Nat) (bl:List BV),v38=.int .i64 s/\s<=x.sn/\wr.ownsRow B1 90 3 v11 bl.length (bl.flatMap BV.cells)/\kM wr v11 bl/\NB w bl/\dQ w1 wr b mb gb x (λg=>v11.ownBlock=some g) ai/\B1<=wr.heap.size/\bl.length<=1000 * s/\Hid (bl.map BV.pr=K.t_ x.nd x.l x.ss x.r s)) (λ_ v38 _=>x.sn - (intOf v38).toNat)
 case atStart=>exact ⟨0,[],rfl,Nat.zero_le _,World.ownsRow_nil _ _ _ _,λy hy=>(by cases hy),λy hy=>(by cases hy),hp2.turn (λg h=>(by cases h)),by rw [hB1];exact zG _,Nat.zero_le _,rfl⟩
 case round =>
  clear hp2 hB1;obtain ⟨s,bl,rfl,hs,hown,rV,hnb,hp,hBr,hbl,hcl⟩:=hrel;by_cases hlt:s < x.sn
  ·obtain ⟨sS,hsS⟩:∃ sS,x.ss[s]? = some sS:=⟨_,zF (by rw [<-bf.out];exact hlt)⟩;have j0:decide ((s:Int) < (x.sn:Int))=true:=by simp;omega
   have dW:=zC hsS;clear hsS;obtain ⟨ws,hws⟩:=zB wr;rw [<-hws] at hown rV hp hBr;rw [<-hws];clear hws;obtain ⟨BS,hBS⟩:=zB ws.heap.size;obtain ⟨FE,AB⟩:=zB (K.bM x.nd x.l x.ss x.r s);have xI:=zC AB;clear AB;go_wp2_with fail;go_loopw [13,43] (λv13 v43 wi=>∃ (k:Nat) (own:List Sh),v43=.int .i64 k/\k<=x.m/\wi.ownsRow BS 48 1 v13 own.length (own.map Sh.val)/\fH wi v13 own/\jJ BS own/\(∀ y ∈ own,y.n<=6)/\dQ w1 wi b mb gb x (λg=>u11.ownBlock=some g\/v13.ownBlock=some g) ai/\ws.grownBy wi (some mb)/\own.length<=64 * k/\Hid (own.map Sh.l=A.dS FE [] (A.upto x.m k))) (λ_ v43 _=>x.m - (intOf v43).toNat)
   case atStart=>exact ⟨0,[],rfl,Nat.zero_le _,World.ownsRow_nil _ _ _ _,λy hy=>(by cases hy),λy hy=>(by cases hy),λy hy=>(by cases hy),hp.turn (λg h=>h.elim .inl λe=>(by cases e)),⟨rfl,rfl,rfl,zG _,λ_ _ _=>rfl⟩,Nat.zero_le _,rfl⟩
   case round =>
    obtain ⟨k,own,rfl,hk,hownO,nH,uH,Au,Ew,wV,hlO,Bc⟩:=hrel;obtain ⟨wk,hwk⟩:=zB wr;rw [<-hwk] at hownO nH Ew wV;rw [<-hwk];clear hwk;by_cases hkm:k < x.m
    ·have k0:decide ((k:Int) < (x.m:Int))=true:=by simp;omega
     obtain ⟨kk,hkk⟩:=zB (k + 1);have ks:IntKind.i64.wrap ((k:Int) + 1)=(kk:Int):=by rw [IntWalk.i64_in _ (by omega)];omega
     have CS:=ajm x.m j_ kk 0 wk (by omega) (by omega);rw [show ((0:Nat):Int)=0 from rfl] at CS;have HKK:=zC hkk;have hDl:(A.fK x.m kk 0).length<=64:=A.Ia j_ (by omega) (by omega);obtain ⟨D,hD⟩:=zB (A.fK x.m kk 0);rw [<-hD] at CS hDl;have HD:=zC hD;clear hkk hD;go_wp2_with fail;refine CS.mono ?_;rintro e wl ⟨⟨E,m,c,l,rfl,hSl,hmc,iW,ji,hln⟩,l9⟩;have hml:m<=64:=by rw [hSl.1.1,<-List.length_map (f:=Sh.l),iW];exact hDl
     have bJ:∀ t ∈ l,t.n<=6/\t.l.Pairwise (· < ·)/\∀ i ∈ t.l,0<=i/\i < (x.m:Int):=λt ht=>by
      have h9:t.l ∈ A.fK x.m kk 0:=by rw [<-HD.out,<-iW];exact List.mem_map_of_mem ht
      obtain ⟨h1,h2,h3⟩:=A.xm.1 h9;have h4:=(hSl.2 t ht).1.1;have:=HKK.out;exact ⟨by omega,h2,λi hi=>by have:=h3 i hi;omega⟩
     have Eu:je E m u13:=λ_ ad e e2=>by
      have h1:=(bG hownO _ e2).2;have h2:=ji ad e;omega
     have EC:fH wl u13 l:=λt ht=>⟨hSl.2 t ht,λh0 ad e e2=>by
      have h1:=(bG hownO _ e2).2;have h2:=hln t ht h0 ad e;omega⟩
     have Ym:=own_below hownO l9;have Yu:=nH.below l9;have hpL:=Ew.below l9;have XR:ws.grownBy wl (some mb):=wV.andThen (row':=none) ⟨l9.os,l9.tape,l9.output,l9.size,λq hq _=>l9.block q hq⟩ (λ_ e=>by cases e);have PT:jJ BS l:=hln.mono (by rw [hBS];exact wV.size);clear CS hownO nH Ew wV ji hln l9;go_wp2_with fail;go_loopw [13,52] (λv13 v52 wj=>∃ (j:Nat) (own':List Sh),v52=.int .i64 j/\j<=m/\Mid w1 ws wj b mb gb x ai u11 v13 BS own' E m l/\jJ BS own'/\(∀ y ∈ own',y.n<=6)/\own'.length<=own.length + j/\Hid (own'.map Sh.l=A.dS FE [] (A.upto x.m k ++ (l.take j).map Sh.l))) (λ_ v52 _=>m - (intOf v52).toNat)
     case atStart=>exact ⟨0,own,rfl,Nat.zero_le _,⟨Ym,Yu,hpL,XR,hSl,Eu,EC⟩,uH,Au,zG _,by show _=_;rw [List.take_zero,List.map_nil,List.append_nil];exact Bc.out⟩
     case round =>
      clear Ym Yu uH Au hpL XR Eu EC hSl;obtain ⟨j,own',rfl,hj,M,mF,rE,mg,hcI⟩:=hrel;by_cases hjm:j < m
      ·obtain ⟨E2,c2,rfl,hS2,hc2,-⟩:=BN M.row rfl M.ok;obtain ⟨ad,t,rfl,hg,⟨hI,hsc,hs0⟩,hc⟩:=M.sh.at_ hjm;obtain ⟨wj,zg⟩:=zB wr;rw [<-zg] at M hS2 hI hc;rw [<-zg];clear zg;have j0:decide ((j:Int) < (m:Int))=true:=by simp;omega
       have js:IntKind.i64.wrap ((j:Int) + 1)=((j + 1:Nat):Int):=by rw [IntWalk.i64_in _ (by omega)];omega
       have kC:=zD hg;obtain ⟨h6,hso,hbd⟩:=bJ t kC;have XC:∀ i ∈ t.l,0<=i/\i < (x.r.length:Int):=λi hi=>by have:=hbd i hi;have:=aO.out;omega
       have bA:Below wj.heap.size wj (wj.alloc (.cells #[.slice t.A t.n t.c] 48)):=(Below.refl _ _).alloc (zG _) _;have hG:=heap_alloc_new wj (.cells #[.slice t.A t.n t.c] 48);have CC:=adV wj.heap.size E2 own'.length c2 own' t.A t.n t.c t.l (wj.alloc (.cells #[.slice t.A t.n t.c] 48)) (hS2.below bA) (by omega) hG (λy hy=>by have:=rE y hy;omega) (hI.below bA) (by omega);have xR:=zC kC;have Gy:=zC (And.intro hso XC);have HG:=zC hg;have qP:=zC mg;have htk:(l.take (j + 1)).map Sh.l=(l.take j).map Sh.l ++ [t.l]:=by rw [List.take_add_one,hg,List.map_append];rfl
       have h_:=zC htk;have YP:∀ g,(u11.ownBlock=some g\/(Value.slice E2 own'.length c2).ownBlock=some g)->g < wj.heap.size:=λg e=>e.elim (λe=>by have h1:=(bG hown g e).2;have h2:=M.gr.size;omega) (λe=>(bG M.row g e).2);have HXS:=zC YP;clear hg mg kC hso hbd XC htk YP;go_wp2_with fail;refine CC.mono ?_;rintro e wc ⟨rfl,bc⟩;have M1:=(M.below bA).below bc;have hG1:=az bc hG;have hI1:=(hI.below bA).below bc;have UO:=bel bA bc;have cG:=af hG1 0 _ rfl;clear CC M hG hI bA bc hS2 hc;obtain ⟨z,hz⟩:=zB ((own'.map Sh.l).any λu=>A.part u t.l);rw [<-hz];have HZ:=zC hz;clear hz;cases z with
       | true =>
        have HN:=zC (A.QY (ok:=FE) (own:=[]) (L:=A.upto x.m k ++ (l.take j).map Sh.l) (v:=t.l) (.inl (by rw [<-hcI.out];exact HZ.out.symm)));go_wp2_with fail;go_roundw
        case rel=>exact ⟨j + 1,own',by go_num,by omega,M1,mF,rE,by have:=qP.out;omega,by show _=_;rw [h_.out,<-List.append_assoc,HN.out];exact hcI.out⟩
        case measure=>simp [intOf];omega
       | false =>
        have CB:=acZ w1 b mb gb x ai s sS t.A t.n t.c t.l wc M1.pl (λg e=>Nat.lt_of_lt_of_le (HXS.out g e) UO.size) dW.out hI1 hsc Gy.out.1 Gy.out.2;have hfe:FE t.l=(K.best x.nd x.l sS x.r t.l).isSome:=by
         rw [xI.out,Bool.eq_iff_iff,K.DI M1.pl.ok Gy.out.1 Gy.out.2,Option.isSome_iff_exists];exact ⟨λ⟨s2,t2,e1,e2⟩=>by rw [dW.out] at e1;injection e1 with e1;subst e1;exact ⟨t2,e2⟩,λ⟨t2,e2⟩=>⟨sS,t2,dW.out,e2⟩⟩
        obtain ⟨T,hT⟩:=zB (K.best x.nd x.l sS x.r t.l);rw [<-hT] at CB hfe;have vJ:=zC hfe;clear hT hfe;go_wp2_with fail;refine CB.mono ?_;rintro e wb ⟨⟨u',rfl,hTA⟩,hgb,hpb⟩;have hGb:=(M1.pl.memo.ext hgb).cells _ _ _ _ hG1;have M2:=M1.best hgb hpb;have cGb:=af hGb 0 _ rfl;clear CB hgb hpb M1 hG1 hI1 cG UO;cases T with
        | some bt =>
         obtain ⟨g,A8,n8,c8,A7,n7,c7,rfl,-⟩:=hTA;have HN:=zC (A.QY (ok:=FE) (own:=[]) (L:=A.upto x.m k ++ (l.take j).map Sh.l) (v:=t.l) (.inr vJ.out));go_wp2_with fail;go_roundw
         case rel=>exact ⟨j + 1,own',by go_num,by omega,M2,mF,rE,by have:=qP.out;omega,by show _=_;rw [h_.out,<-List.append_assoc,HN.out];exact hcI.out⟩
         case measure=>simp [intOf];omega
        | none =>
         obtain rfl:u'=.pointer none:=hTA;have HN:=zC (A.Z_ (ok:=FE) (own:=[]) (L:=A.upto x.m k ++ (l.take j).map Sh.l) (v:=t.l) (by rw [<-hcI.out];exact HZ.out.symm) vJ.out);have hbs:BS<=wb.heap.size:=by have h2:=M2.gr.size;omega
         have bD:Below wb.heap.size wb (wb.alloc (.cells #[.slice t.A t.n t.c] 48)):=(Below.refl _ _).alloc (zG _) _;have M3:=M2.below bD;have Jd:=Nat.le_trans hbs bD.size;have hln:own'.length<=1000000:=by have:=qP.out;omega
         clear M2 hGb;go_wp2_with (at_builtin;refine M_ rfl (.tmp 67) (.tmp 69) rfl BS (.slice E2 own'.length c2) own'.length own' rfl M3.row wb.heap.size t rfl (heap_alloc_new wb _) hln Jd ?_;intro v' w6 hown6 hgrow6 gW);have M4:=M3.app xR.out hgrow6 gW hown6 hBS;clear M3 hown6 hgrow6 gW bD cGb;go_roundw
         case rel=>exact ⟨j + 1,own' ++ [t],by go_num,by omega,M4,mF.snoc (PT t xR.out),λy hy=>(List.mem_append.1 hy).elim (rE y) (λhy=>by rw [List.mem_singleton] at hy;rw [hy];exact h6),by rw [List.length_append];have:=qP.out;simp;omega,by show _=_;rw [h_.out,<-List.append_assoc,HN.out,List.map_append,hcI.out];rfl⟩
         case measure=>simp [intOf];omega
      ·have j0:decide ((j:Int) < (m:Int))=false:=by simp;omega
       have Ei:l.take j=l:=List.take_of_length_le (by have:=M.sh.1.1;omega);have HE:=zC (show own'.map Sh.l=A.dS FE [] (A.upto x.m kk) by rw [hcI.out,Ei,iW,HD.out,HKK.out,A.upto_succ]);have qP:=zC mg;clear Ei mg;go_wp2_with fail;go_roundw
       case rel=>exact ⟨kk,own',rfl,by rw [HKK.out];omega,M.row,M.ok,mF,rE,M.pl,M.gr,by have:=qP.out;have:=HKK.out;omega,HE.out⟩
       case measure=>simp [intOf];have:=HKK.out;omega
    ·have k0:decide ((k:Int) < (x.m:Int))=false:=by simp;omega
     have wW:k=x.m:=by omega
     have HOWN:=zC (show own.map Sh.l=A.own FE x.m by rw [Bc.out,wW];rfl);obtain ⟨E,c,rfl,DY,hnc,ji⟩:=BN hownO rfl nH;clear wW;have F0:vG w1 wk b mb gb x ai u11 B1 bl E own.length own:=⟨hown.kept wV (.inr λe=>(hp.away mb e).2.2.1 rfl),rV.ext (hp.memo.ext wV),Ew.turn (λg h=>.inl (.inl h)),DY,λh0 ad e e2=>(by have h1:=(bG hown _ e2).2;have h2:=ji ad e;omega),λt ht=>⟨(nH t ht).1,λh0 ad e e2=>(by have h1:=(bG hown _ e2).2;have h2:=uH t ht h0 ad e;omega)⟩⟩;have Wh:B1<=wk.heap.size:=by have:=wV.size;omega
     have hol:own.length<=384:=by omega
     have LM:=zC (show jJ w.heap.size own from uH.mono (by rw [hBS];exact Nat.le_trans Xr.out hBr));clear hown rV hp hownO nH Ew wV DY ji uH Bc hBr;go_wp2_with fail;clear k0;go_loopw [11,75] (λv11 v75 wf=>∃ (j:Nat) (iy:List BV),v75=.int .i64 j/\j<=own.length/\vG w1 wf b mb gb x ai v11 B1 iy E own.length own/\NB w iy/\B1<=wf.heap.size/\iy.length=bl.length + j/\Hid (iy.map BV.pr=bl.map BV.pr ++ (own.take j).map λt=>((s:Int),t.l,K.aS x.nd x.l sS x.r t.l))) (λ_ v75 _=>own.length - (intOf v75).toNat)
     case atStart=>exact ⟨0,bl,rfl,Nat.zero_le _,F0,hnb,Wh,rfl,by show _=_;rw [List.take_zero,List.map_nil,List.append_nil]⟩
     case round =>
      clear F0 Wh;obtain ⟨j,iy,rfl,hj,F,hnf,DR,hlb,hcb⟩:=hrel;obtain ⟨wf,hwf⟩:=zB wr;rw [<-hwf] at F DR;rw [<-hwf];clear hwf;by_cases hjn:j < own.length
      ·obtain ⟨kT,t,rfl,hg,⟨hI,hsc,hs0⟩,hc⟩:=F.sh.at_ hjn;obtain ⟨au,s2,gq,hs2,-,s0,s1,s2',s3,s4,s5⟩:=F.pl.case.shifts.at_ hlt;rw [dW.out] at hs2;injection hs2 with hs2;subst hs2;rw [gq];have hAt:At wf (x.one sS):=F.pl.one (zD dW.out);have SP:∀ w8:World,Below w1.heap.size w1 w8->(λw':World=>w'.cell? ⟨G0,0,none⟩=some (.int .i64 x.nd)/\w'.cell? ⟨G0,1,none⟩=some (.slice x.A x.n x.c)/\w'.cell? (au.add (s * 6))=some (.int .i64 sS.day)/\w'.cell? ⟨(au.add (s * 6)).block,(au.add (s * 6)).off + 1,none⟩=some (.int .i64 sS.ag)/\w'.cell? ⟨(au.add (s * 6)).block,(au.add (s * 6)).off + 2,none⟩=some (.int .i64 sS.start)/\w'.cell? ⟨(au.add (s * 6)).block,(au.add (s * 6)).off + 3,none⟩=some (.int .i64 sS.end_)/\w'.cell? ⟨(au.add (s * 6)).block,(au.add (s * 6)).off + 4,none⟩=some (.int .i64 sS.aj)/\w'.cell? ⟨(au.add (s * 6)).block,(au.add (s * 6)).off + 5,none⟩=some (.slice sS.A sS.n sS.c)) w8:=λw8 hb=>⟨(hN1.below hb).c0,(hN1.below hb).c1,(hb.cell (cell_lt s0)).trans s0,(hb.cell (cell_lt s1)).trans s1,(hb.cell (cell_lt s2')).trans s2',(hb.cell (cell_lt s3)).trans s3,(hb.cell (cell_lt s4)).trans s4,(hb.cell (cell_lt s5)).trans s5⟩;have S0:=SP wf F.pl.bw;have aW:=SP wf.drew (bel F.pl.bw (Below.refl _ _).drew);have jo:Below wf.heap.size wf wf.drew:=(Below.refl _ _).drew;have j0:decide ((j:Int) < (own.length:Int))=true:=by simp;omega
       have js:IntKind.i64.wrap ((j:Int) + 1)=((j + 1:Nat):Int):=by rw [IntWalk.i64_in _ (by omega)];omega
       have kC:=zD hg;have h6:=Au t kC;have htk:(own.take (j + 1)).map (λt=>((s:Int),t.l,K.aS x.nd x.l sS x.r t.l))=(own.take j).map (λt=>((s:Int),t.l,K.aS x.nd x.l sS x.r t.l)) ++ [((s:Int),t.l,K.aS x.nd x.l sS x.r t.l)]:=by rw [List.take_add_one,hg,List.map_append];rfl
       have h_:=zC htk;have sW:=zC hlb;have pK:=zC gq;have PX:je t.A t.n u11:=λh0 ad e=>(F.lk t kC).2 h0 ad e;clear hg htk hlb gq s0 s1 s2' s3 s4 s5;go_upto_region 26 with fail;have k0:(0:Int)<=(s:Int):=by omega
       have k1:(s:Int) < (x.sn:Int):=by omega
       have NV:t.n<=1000000000:=by omega
       have hvl:t.l.length<=6:=by rw [<-hI.1];exact h6
       have hln:iy.length<=1000000:=by have:=sW.out;omega
       go_region_held3 (λw':World=>w'.cell? ⟨G0,0,none⟩=some (.int .i64 x.nd)/\w'.cell? ⟨G0,1,none⟩=some (.slice x.A x.n x.c)/\w'.cell? (au.add (s * 6))=some (.int .i64 sS.day)/\w'.cell? ⟨(au.add (s * 6)).block,(au.add (s * 6)).off + 1,none⟩=some (.int .i64 sS.ag)/\w'.cell? ⟨(au.add (s * 6)).block,(au.add (s * 6)).off + 2,none⟩=some (.int .i64 sS.start)/\w'.cell? ⟨(au.add (s * 6)).block,(au.add (s * 6)).off + 3,none⟩=some (.int .i64 sS.end_)/\w'.cell? ⟨(au.add (s * 6)).block,(au.add (s * 6)).off + 4,none⟩=some (.int .i64 sS.aj)/\w'.cell? ⟨(au.add (s * 6)).block,(au.add (s * 6)).off + 5,none⟩=some (.slice sS.A sS.n sS.c))
        (first | with_reducible exact xY | with_reducible exact Af | with_reducible exact S9 | with_reducible exact aW | with_reducible exact S0 | fail)
        (first
         | (go_at_call 78;refine (Zb (x.one sS) t.A t.n t.c t.l _ (hAt.below jo) (hI.below jo) hsc NV).mono ?_;rintro e w9 ⟨⟨LA,ln,lc,rfl,yD,yG⟩,b9⟩;have F9:=F.below (bel jo b9);have kF:B1<=w9.heap.size:=Nat.le_trans DR (bel jo b9).size;have a9:Below w9.heap.size w9 (w9.alloc (.cells #[.int .i64 (s:Int),.slice t.A t.n t.c,.slice LA ln lc] 90)):=(Below.refl _ _).alloc (zG _) _;have S9:=SP w9 F9.pl.bw;have Af:=SP _ (F9.below a9).pl.bw;have Jl:je LA ln u11:=λh0 ad e e2=>(by have h1:=(bG F.row _ e2).2;have h2:=yG ad e;have h3:=jo.size;omega);have hll:ln<=384:=(by have h1:=yD.1;have h2:(K.aS x.nd x.l sS x.r t.l).length<=384:=K.Zd hvl;have h3:ln=(K.aS x.nd x.l sS x.r t.l).length:=h1;omega))
         | (refine abO rfl (.tmp 79) (.tmp 91) rfl F9.row kF rfl w9.heap.size ⟨s,t.A,t.n,t.c,t.l,LA,ln,lc,K.aS x.nd x.l sS x.r t.l⟩ rfl a9 (heap_alloc_new w9 _) hln ?_;intro v' w10 yZ nG uz;have F10:=(F9.below a9).app ⟨⟨(hI.below (bel jo b9)).below a9,aQ.below yD a9⟩,PX,Jl,hsc,h6,hll⟩ nG uz yZ;have xY:=SP w10 F10.pl.bw)
         | fail)
       have aeJ:B1<=w10.heap.size:=by have h1:=nG.size;have h2:=a9.size;omega
       have afm:NB w (iy ++ [(⟨s,t.A,t.n,t.c,t.l,LA,ln,lc,K.aS x.nd x.l sS x.r t.l⟩:BV)]):=hnf.snoc (λh0 ad e=>LM.out t kC h0 ad e) (λ_ ad e=>by have h1:=yG ad e;have h2:=F.pl.bw.size;have h3:=hb1.size;have h4:=jo.size;omega);clear F F9 S0 aW S9 Af xY SP yD yG a9 b9 yZ nG uz jo hAt hc hI;go_wp2_with fail;go_roundw
       case rel=>exact ⟨j + 1,iy ++ [⟨s,t.A,t.n,t.c,t.l,LA,ln,lc,K.aS x.nd x.l sS x.r t.l⟩],by go_num,by omega,F10,afm,aeJ,by rw [List.length_append,sW.out];simp;omega,by show _=_;rw [h_.out,<-List.append_assoc,<-hcb.out,List.map_append];rfl⟩
       case measure=>simp [intOf];omega
      ·have j0:decide ((j:Int) < (own.length:Int))=false:=by simp;omega
       have ks:IntKind.i64.wrap ((s:Int) + 1)=((s + 1:Nat):Int):=by rw [IntWalk.i64_in _ (by omega)];omega
       have Ej:own.take j=own:=List.take_of_length_le (by omega);have aV:=zC (show iy.map BV.pr=K.t_ x.nd x.l x.ss x.r (s + 1) by
        rw [K.U8,<-hcl.out,hcb.out,Ej,<-aO.out,<-xI.out,<-HOWN.out,List.map_map];congr 1;refine List.map_congr_left λt _=>?_;show _=((s:Int),t.l,_);rw [dW.out])
       have sW:=zC hlb;clear Ej hlb;go_wp2_with fail;go_roundw
       case rel=>exact ⟨s + 1,iy,by go_num,hlt,F.row,F.ok,hnf,F.pl,DR,by have:=sW.out;omega,aV.out⟩
       case measure=>simp [intOf];omega
  ·have hse:s=x.ss.length:=by have:=bf.out;omega
   have j0:decide ((s:Int) < (x.sn:Int))=false:=by simp;omega
   obtain ⟨A9,c9,rfl,jO,Iy⟩:=dh hown;have PU:bl.length<=c9:=by
    obtain ⟨-,⟨e,e0⟩ | ⟨g',cap,cur,e,-,-,h9,-⟩⟩:=hown
    ·rw [e0];exact Nat.zero_le _
    ·injection e with e1 e2 e3;rw [e3];exact h9
   have HB:=zC (show bl.map BV.pr=(K.refute x.nd x.l x.ss x.r).1.map λb=>((b.1:Int),b.2) by rw [HR.out,K.U7,<-hse];exact hcl.out);have HX:=zC (show (K.refute x.nd x.l x.ss x.r).2=0 by rw [HR.out]);have hbn:bl.length<=1000000000:=by omega
   clear hse hown;go_wp2_with fail;go_ret2
   rw [HX.out];exact ⟨⟨A9,bl.length,c9,bl,rfl,⟨⟨rfl,jO⟩,λy hy=>(rV y hy).1⟩,PU,⟨hbn,λy hy=>by obtain ⟨-,-,-,h1,h2,h3⟩:=rV y hy;exact ⟨h1,by omega,by omega⟩⟩,HB.out,λad e=>Nat.le_trans Xr.out (Iy _ (by rw [e];rfl)).1,hnb⟩,bel hb1 hp.bw⟩
theorem akY (x:Cs) (w:World) (hx:bF w x) :
  Calls Tryz.prog 22 #[.agg #[.int .i64 x.nd,.slice x.A x.n x.c],.slice x.SA x.sn x.sc,.slice x.B x.m x.d] w λe w'=>acD w w' ((K.refute x.nd x.l x.ss x.r).1.map λb=>((b.1:Int),b.2)) (K.refute x.nd x.l x.ss x.r).2 e :=
 (aaH x w hx).mono λ_ _ ⟨⟨A,n,c,bl,h1,h2,h3,h4,h5,_,_⟩,hb⟩=>⟨⟨A,n,c,bl,h1,h2,h3,h4,h5⟩,hb⟩
end Go.Proofs.YtippdjmpkafifaaGreat
