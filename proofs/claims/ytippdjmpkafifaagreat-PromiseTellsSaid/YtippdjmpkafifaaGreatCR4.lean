import Derived.Test.YtippdjmpkafifaaGreatCR3
import Derived.Test.YtippdjmpkafifaaGreatCR2
import Derived.Test.YtippdjmpkafifaaGreatCR1
import Derived.Deep.RegionHeld3
import Derived.BigRegion
import Derived.Laws.ResultCell
set_option maxRecDepth 100000
set_option maxHeartbeats 64000000
namespace Go.Proofs.YtippdjmpkafifaaGreat
open Go.RowKit
namespace G
theorem alV {k:Int} {out:ag} {B:Nat} {x:Ro} (h:Bd out B) (h1:1<=x.f_) (h2:x.f_<=1000000):Bd (step k out x) (B + 1):=by
 unfold step;split
 ·rename_i hc
  simp only [dH,gu] at hc;have h0:=hc.2.1;intro y hy;rcases List.mem_or_eq_of_mem_set hy with hy | rfl
  ·have:=h y hy;omega
  ·cases e:out[x.fr.toNat]? with
   | none=>unfold at_ at h0;rw [e] at h0;simp at h0
   | some z =>
    have e2:at_ out x.fr=z:=by unfold at_;rw [e];rfl
    have:=h z (zD e);rw [e2] at h0 ⊢;omega
 ·exact h.mono (by omega)
theorem akQ {k:Int}:∀ (l:List Ro) (out:ag) (B:Nat),(∀ x ∈ l,1<=x.f_/\x.f_<=1000000/\0<=x.fr)->Bd out B->Bd (round k out l) (B + l.length):=by
 intro l;induction l with
 | nil=>intro out B _ h;exact h
 | cons x l ih =>
  intro out B hl h;have hx:=hl x dJ;have:=ih _ _ (λy hy=>hl y (dN _ hy)) (alV (k:=k) h hx.1 hx.2.1);rw [dQ];exact this.mono (by omega)
theorem akS {k:Int} {l:List Ro} (hl:∀ x ∈ l,1<=x.f_/\x.f_<=1000000/\0<=x.fr):∀ (m:Nat) (out:ag) (B:Nat),Bd out B->Bd (rounds k l m out) (B + m * l.length):=by
 intro m;induction m with
 | zero=>intro out B h;exact h.mono (by omega)
 | succ m ih =>
  intro out B h;have:=ih _ _ (akQ (k:=k) l out B hl h);exact this.mono (by rw [Nat.add_mul];omega)
end G
namespace K
theorem ama (nd:Int) (l:List Ro) (s k:Int):∀ x ∈ times nd l s k,-1<=x/\x<=60000000000:=by
 unfold times;split
 ·rename_i h
  simp only [dH,beq_iff_eq] at h;obtain ⟨⟨n0,n1⟩,hl,hf,hm⟩:=I7 h.1;have h0:G.Bd ((List.replicate nd.toNat (-1)).set s.toNat 0) 0:=by
   intro x hx;rcases List.mem_or_eq_of_mem_set hx with hx | rfl
   ·rw [List.mem_replicate] at hx;omega
   ·omega
  have h1:=G.akS (k:=k) (l:=l) (λx hx=>⟨(hf x hx).2.2,hm x hx,(hf x hx).1.1⟩) nd.toNat _ _ h0;intro x hx;have:=h1 x hx;have:nd.toNat * l.length<=100 * 600:=Nat.mul_le_mul (by omega) hl;omega
 ·intro x hx;simp at hx
theorem OD {nd:Int} {l:List Ro} {s k:Int} (h:aZ nd l=0) (hs:0<=s/\s < nd):(times nd l s k).length=nd.toNat:=by
 obtain ⟨m,rfl⟩:∃ m:Nat,nd=(m:Int):=⟨nd.toNat,by omega⟩;have:=(OC (k:=k) h (T.lS.2 ⟨hs.1,by omega⟩)).1;rw [this,kE]
def way (nd:Int) (l:List Ro) (s k v:Int):Int:=G.at_ (times nd l s k) v
theorem jY (nd:Int) (l:List Ro) (s k v:Int):-1<=way nd l s k v/\way nd l s k v<=60000000000:=by
 unfold way G.at_;cases h:(times nd l s k)[v.toNat]? with
 | none=>simp
 | some x=>exact ama nd l s k x (zD h)
def req (r:List Q) (i:Int):Q:=(r[i.toNat]?).getD ⟨0,0,0,0,0,0,none,0,0,[]⟩
theorem lZ {r:List Q} {i:Nat} {q:Q} (h:r[i]? = some q):req r (i:Int)=q:=by unfold req;rw [kE,h];rfl
def reach (nd:Int) (l:List Ro) (s:S) (r:List Q) (served:ag) (a t node:Int):Int × Int :=
 if way nd l a (T.weight s r served) node=-1 then (0,4) else if s.end_ < t + way nd l a (T.weight s r served) node then (0,18) else (t + way nd l a (T.weight s r served) node,0)
def aG (nd:Int) (l:List Ro) (s:S) (r:List Q) (served:ag) (i:Int) (a t:Int):Int × Int :=
 if s.day < (req r i).aI\/(req r i).aP < s.day then (0,17) else if T.fits s r (served ++ [i])=false then (0,20)
 else if (reach nd l s r served a t (req r i).node).2 ≠ 0 then (0,(reach nd l s r served a t (req r i).node).2)
 else if (H.fit (req r i).l (reach nd l s r served a t (req r i).node).1 (req r i).service).2=false then (0,19)
 else if s.end_ < (H.fit (req r i).l (reach nd l s r served a t (req r i).node).1 (req r i).service).1 + (req r i).service then (0,18)
 else ((H.fit (req r i).l (reach nd l s r served a t (req r i).node).1 (req r i).service).1,0)
structure P_ where
 times:List Int
 a:Int
 t:Int
 e:Int
def aB (nd:Int) (l:List Ro) (s:S) (r:List Q) (served:ag) (a t:Int):List Int->P_
 | []=>⟨[],a,t,0⟩
 | i :: rest =>
  if (aG nd l s r served i a t).2 ≠ 0 then ⟨[],a,t,(aG nd l s r served i a t).2⟩
  else
   let x:=aB nd l s r (served ++ [i]) (req r i).node ((aG nd l s r served i a t).1 + (req r i).service) rest
   ⟨(aG nd l s r served i a t).1 :: x.times,x.a,x.t,x.e⟩
structure Tr where
 stops:List Int
 times:List Int
 end_:Int
def Tr.zero:Tr:=⟨[],[],0⟩
def right (nd:Int) (l:List Ro) (s:S) (r:List Q) (order:ag):Bool :=
 (aZ nd l == 0) && (T.load s r order && (decide (s.ax < nd) && order.all λi=>decide ((req r i).node < nd)))
structure JY where
 bC:Tr
 e:Int
 n:Nat
def run (nd:Int) (l:List Ro) (s:S) (r:List Q) (order:ag):JY :=
 if right nd l s r order=false then ⟨Tr.zero,1,0⟩
 else if (aB nd l s r [] s.ax s.start order).e ≠ 0 then ⟨Tr.zero,(aB nd l s r [] s.ax s.start order).e,(aB nd l s r [] s.ax s.start order).times.length⟩
 else if (reach nd l s r order (aB nd l s r [] s.ax s.start order).a (aB nd l s r [] s.ax s.start order).t s.ax).2 ≠ 0 then ⟨Tr.zero,(reach nd l s r order (aB nd l s r [] s.ax s.start order).a (aB nd l s r [] s.ax s.start order).t s.ax).2,order.length⟩
 else ⟨⟨order,(aB nd l s r [] s.ax s.start order).times,(reach nd l s r order (aB nd l s r [] s.ax s.start order).a (aB nd l s r [] s.ax s.start order).t s.ax).1⟩,0,order.length⟩
end K
theorem H.agF {t s:Int}:∀ {l:List (Int × Int)},(H.iU t s l).2=true->∃ p ∈ l,t<=(H.iU t s l).1/\p.1<=(H.iU t s l).1/\(H.iU t s l).1 + s<=p.2:=by
 intro l;induction l with
 | nil=>intro h;simp [H.iU] at h
 | cons p l ih =>
  intro h;unfold H.iU at h ⊢;split at h
  ·rename_i h1
   rw [if_pos h1];exact ⟨p,dJ,by simp only;omega,by simp only;omega,h1⟩
  ·rename_i h1
   rw [if_neg h1];obtain ⟨q,hq,h2⟩:=ih h;exact ⟨q,dN _ hq,h2⟩
theorem H.oZ {l:List (Int × Int)} {t s:Int} (h:(H.fit l t s).2=true):H.right l=true/\(0<=t/\t<=1000000)/\(0<=s/\s<=1000000)/\t<=(H.fit l t s).1/\(H.fit l t s).1 + s<=1000000:=by
 unfold H.fit at h ⊢;split at h
 ·rename_i h1
  rw [if_pos h1];simp only [dH] at h1;obtain ⟨⟨h1,h2⟩,h3⟩:=h1;obtain ⟨p,hp,g1,g2,g3⟩:=H.agF h;have:=(H.Qh h1).2 p hp;exact ⟨h1,H.C_.1 h2,H.C_.1 h3,g1,by omega⟩
 ·simp at h
namespace K
theorem rX {nd:Int} {l:List Ro} {s:S} {r:List Q} {v:ag} {a t node:Int} (h:(reach nd l s r v a t node).2=0) :
  way nd l a (T.weight s r v) node ≠ -1/\0<=way nd l a (T.weight s r v) node/\(reach nd l s r v a t node).1=t + way nd l a (T.weight s r v) node/\(reach nd l s r v a t node).1<=s.end_:=by
 have hb:=jY nd l a (T.weight s r v) node;unfold reach at h ⊢;split at h
 ·simp at h
 ·rename_i h1
  split at h
  ·simp at h
  ·rename_i h2
   rw [if_neg h1,if_neg h2];exact ⟨h1,by omega,rfl,by simp only;omega⟩
theorem zW {nd:Int} {l:List Ro} {s:S} {r:List Q} {v:ag} {i a t:Int} (h:(aG nd l s r v i a t).2=0) :
  (req r i).aI<=s.day/\s.day<=(req r i).aP/\T.fits s r (v ++ [i])=true/\(reach nd l s r v a t (req r i).node).2=0/\(H.fit (req r i).l (reach nd l s r v a t (req r i).node).1 (req r i).service).2=true /\
   (aG nd l s r v i a t).1=(H.fit (req r i).l (reach nd l s r v a t (req r i).node).1 (req r i).service).1/\(aG nd l s r v i a t).1 + (req r i).service<=s.end_:=by
 unfold aG at h ⊢;split at h
 ·simp at h
 ·rename_i h1
  split at h
  ·simp at h
  ·rename_i h2
   split at h
   ·rename_i h3;exact absurd h h3
   ·rename_i h3
    split at h
    ·simp at h
    ·rename_i h4
     split at h
     ·simp at h
     ·rename_i h5
      rw [if_neg h1,if_neg h2,if_neg h3,if_neg h4,if_neg h5];exact ⟨by omega,by omega,by simpa using h2,by simpa using h3,by simpa using h4,rfl,by simp only;omega⟩
end K
structure C where
 nd:Int
 A:Option Addr
 n:Nat
 c:Nat
 l:List Ro
 s:S
 B:Option Addr
 m:Nat
 d:Nat
 r:List Q
structure At (w:World) (x:C):Prop where
 net:gq w x.A x.n x.l
 gW:Ints w x.s.A x.s.n x.s.l
 bf:dm w x.B x.m x.r
 b1:x.n<=1000000000
 b2:x.s.n<=1000000000
 b3:x.m<=1000000000
 b4:∀ q ∈ x.r,q.n<=1000000000
theorem At.below {w w':World} {x:C} (h:At w x) (hb:af w w'):At w' x:=⟨aX.below h.net hb,h.gW.below hb,h.bf.below hb,h.b1,h.b2,h.b3,h.b4⟩
def qY (w:World) (b:Nat) (x:C) (V:aj) (vn vc:Nat) (a t:Int):Prop :=
 w.heap[b]? = some (.cells #[.int .i64 x.nd,.slice x.A x.n x.c,.int .i64 x.s.day,.int .i64 x.s.ax,.int .i64 x.s.start,.int .i64 x.s.end_,.int .i64 x.s.aU,.slice x.s.A x.s.n x.s.c,.slice x.B x.m x.d,.slice V vn vc,.int .i64 a,.int .i64 t] 220 (0,0))
def yL (w:World) (b:Nat) (x:C) (V:aj) (vn vc:Nat) (a t:Int) (w':World):Prop :=
 af w w'/\aJ w' b 0 x.nd/\bT w' b 1 x.A x.n x.c/\aJ w' b 2 x.s.day/\aJ w' b 3 x.s.ax/\aJ w' b 4 x.s.start /\
  aJ w' b 5 x.s.end_/\aJ w' b 6 x.s.aU/\bT w' b 7 x.s.A x.s.n x.s.c/\bT w' b 8 x.B x.m x.d/\bT w' b 9 V vn vc/\aJ w' b 10 a/\aJ w' b 11 t
theorem qY.below {w w':World} {b:Nat} {x:C} {V:aj} {vn vc:Nat} {a t:Int} (h:qY w b x V vn vc a t) (hb:af w w'):qY w' b x V vn vc a t:=au hb h
theorem qY.at_ {w:World} {b:Nat} {x:C} {V:aj} {vn vc:Nat} {a t:Int} (h:qY w b x V vn vc a t) {w':World} (hb:af w w'):yL w b x V vn vc a t w':=by
 have h:=h.below hb;exact ⟨hb,ah h 0 _ rfl,ah h 1 _ rfl,ah h 2 _ rfl,ah h 3 _ rfl,ah h 4 _ rfl,ah h 5 _ rfl,ah h 6 _ rfl,ah h 7 _ rfl,ah h 8 _ rfl,ah h 9 _ rfl,ah h 10 _ rfl,ah h 11 _ rfl⟩
theorem Vr {a b:Int} {p:Int × Int} (h:p=(a,b)):Ending.returned (.tuple #[.int .i64 a,.int .i64 b])=.returned (.tuple #[.int .i64 p.1,.int .i64 p.2]):=by rw [h]
theorem acB (b:Nat) (x:C) (V:aj) (vn vc:Nat) (v:ag) (a t node:Int) (w:World) (hx:At w x) (hT:qY w b x V vn vc a t) (hV:Ints w V vn v) (hvn:vn<=1000000000) (hne:K.aZ x.nd x.l=0) (ha:0<=a/\a < x.nd) (hno:0<=node/\node < x.nd) (ht:0<=t/\t<=1000000) :
  ay 188 #[.pointer (some ⟨b,0,none⟩),.int .i64 node] w λe w'=>e=.returned (.tuple #[.int .i64 (K.reach x.nd x.l x.s x.r v a t node).1,.int .i64 (K.reach x.nd x.l x.s x.r v a t node).2])/\af w w':=by
 have S0:=hT.at_ (dK w);have hA:∀ w',yL w b x V vn vc a t w'->At w' x:=λw' h=>hx.below h.1;have hW:∀ w',yL w b x V vn vc a t w'->Ints w' V vn v:=λw' h=>hV.below h.1;have LW:∀ w' w'',yL w b x V vn vc a t w'->af w' w''->yL w b x V vn vc a t w'':=λw' w'' h hb=>hT.at_ (bel h.1 hb);have hTd:∀ w',yL w b x V vn vc a t w'->yL w b x V vn vc a t w'.drew:=λw' h=>hT.at_ h.1.drew;obtain ⟨b1,b2,b3,b4⟩:x.n<=1000000000/\x.s.n<=1000000000/\x.m<=1000000000/\∀ q ∈ x.r,q.n<=1000000000:=⟨hx.b1,hx.b2,hx.b3,hx.b4⟩;go_enter Tryz.func188,Tryz.ntmps188;go_wp2_with fail
 go_region_held3 (λw'=>af w w'/\w'.cell? ⟨b,0,none⟩=some (.int .i64 x.nd)/\w'.cell? ⟨b,1,none⟩=some (.slice x.A x.n x.c)/\w'.cell? ⟨b,2,none⟩=some (.int .i64 x.s.day)/\w'.cell? ⟨b,3,none⟩=some (.int .i64 x.s.ax)/\w'.cell? ⟨b,4,none⟩=some (.int .i64 x.s.start) /\
  w'.cell? ⟨b,5,none⟩=some (.int .i64 x.s.end_)/\w'.cell? ⟨b,6,none⟩=some (.int .i64 x.s.aU)/\w'.cell? ⟨b,7,none⟩=some (.slice x.s.A x.s.n x.s.c)/\w'.cell? ⟨b,8,none⟩=some (.slice x.B x.m x.d)/\w'.cell? ⟨b,9,none⟩=some (.slice V vn vc)/\w'.cell? ⟨b,10,none⟩=some (.int .i64 a)/\w'.cell? ⟨b,11,none⟩=some (.int .i64 t))
  (first | assumption | exact S0 | exact hTd _ (by assumption) | exact LW _ _ (by assumption) (by assumption))
  (first
   | (go_at_call 190;refine (VU x.s x.B x.m x.d x.r V vn vc v _ (hA _ ?_).gW b2 (hA _ ?_).bf b3 b4 (hW _ ?_) hvn).mono ?_;assumption;assumption;assumption;rintro e w' ⟨rfl,hb⟩)
   | (go_at_call 192;refine (times_any x.nd x.A x.n x.c x.l a (T.weight x.s x.r v) _ (hA _ ?_).net b1).mono ?_;assumption;rintro e w' ⟨⟨A1,n1,c1,rfl,hI⟩,hb⟩))
 have hH:yL w b x V vn vc a t w':=by assumption
 have hlen:=K.OD (k:=T.weight x.s x.r v) hne ha;obtain ⟨kn,rfl⟩:∃ kn:Nat,node=(kn:Int):=⟨node.toNat,by omega⟩;obtain ⟨ad,y,rfl,hy,cy⟩:=hI.at_ (k:=kn) (by rw [hI.1,hlen];omega);have hn1:(n1:Int)=x.nd:=by rw [hI.1,hlen];omega
 have hwy:K.way x.nd x.l a (T.weight x.s x.r v) kn=y:=by unfold K.way;rw [G.Gp hy]
 have hyb:=K.jY x.nd x.l a (T.weight x.s x.r v) kn;rw [hwy] at hyb;obtain ⟨hy0,hy1⟩:=hyb;have HW:=zC hwy;obtain ⟨k0,k1⟩:=zJ (a:=kn) (b:=n1) (by omega);have hbb:=hH.1;have hBel:af w w':=hbb;have ZK:=hT.below hbb;have hwrap:IntKind.i64.wrap (t + y)=t + y:=dh _ (by omega);clear hH hlen hwy hy hI hn1 hA hW LW hTd S0 hbb;cases h1:(y == -1)
 ·have hyn:¬ y=-1:=by simpa using h1
  have qw:=zC hyn;clear hyn;obtain ⟨-,p0,p1,p2,p3,p4,p5,p6,p7,p8,p9,p10,p11⟩:=ZK.at_ ai;by_cases h2:x.s.end_ < t + y
  ·go_wp2_with fail;go_quiet (fail);go_wp2_with fail;go_ret2
   exact ⟨Vr (by unfold K.reach;rw [HW.out,if_neg qw.out,if_pos h2]),below_drewN hBel _⟩
  ·go_wp2_with fail;go_quiet (fail);obtain ⟨w2,hw2⟩:=zB (w'.drewN nq);rw [<-hw2];have b2':af w' w2:=by rw [hw2];exact below_drewN ai _
   clear hw2;obtain ⟨-,q0,q1,q2,q3,q4,q5,q6,q7,q8,q9,q10,q11⟩:=(ZK.below b2').at_ ai;have cy2:=(b2'.cell (cell_lt cy)).trans cy;go_wp2_with fail;go_quiet (fail);go_wp2_with fail;go_ret2
   exact ⟨Vr (by unfold K.reach;rw [HW.out,if_neg qw.out,if_neg (show ¬ x.s.end_ < t + y by omega)]),below_drewN (bel hBel b2') _⟩
 ·have hyn:y=-1:=by simpa using h1
  have qw:=zC hyn;clear hyn;go_wp2_with fail;go_ret2
  exact ⟨Vr (by unfold K.reach;rw [HW.out,if_pos qw.out]),hBel⟩
theorem wU {ops:Array Oper} {rest:List Oper} {o:Oper} {a:Act} {Q:Exit->Act->World->Prop} {w:World} (hgd:o.guard=none) (s x:Operand)
  (ho:o.op=.call { callee:=.builtin .append,args:=#[s,x],argTypes:=#[48,48] })
  (base:Nat) (v:Value) (n:Nat) (l:ag) (hs:a.eval s=v) (hown:w.ownsRow base 3 1 v n (intCells l)) (g:Nat) (p:Int) (hx:a.eval x=.slice (some ⟨g,0,none⟩) 1 1)
  (hg:w.heap[g]? = some (.cells #[.int .i64 p] 3 (0,0))) (hn:n<=1000000) (hbase:base<=w.heap.size)
  (h:∀ v' w',w'.ownsRow base 3 1 v' (n + 1) (intCells (l ++ [p]))->w.grownBy w' v.ownBlock->(v'.ownBlock=v.ownBlock\/v'.ownBlock=some w.heap.size)->wpList Tryz.prog ops Q rest (a.put o.dst v') w') :
  wpList Tryz.prog ops Q (o :: rest) a w:=by
 obtain ⟨i0,hi,hz0,hz1,hz2⟩:=info_parts Tryz.info3;refine wpList_append_own_at w hgd s x 48 ho base 3 i0 (.int .i64 0) 1 8 Tryz.underlying48 hi hz0 hz1 hz2 rfl (by decide) v n (intCells l) hs hown ⟨g,0,none⟩ 1 1 [.int .i64 p] hx rfl ?_ ?_ ?_ ?_ hbase ?_
 ·intro j u hu;rw [lN];exact ah hg j u (by simpa using hu)
 ·intro u hu;simp at hu;subst hu;rfl
 ·simp only [maxLen];omega
 ·omega
 ·intro v' w' h2 h3 _ h5;exact h v' w' (by rw [EL];exact h2) h3 h5
theorem yT (A:aj) (n c:Nat) (l:ag) (w:World) (hl:Ints w A n l) (hn:n<=1000000) :
  ay 109 #[.slice A n c] w λe w'=>(∃ v,e=.returned v/\w'.ownsRow w.heap.size 3 1 v n (intCells l))/\af w w':=by
 obtain ⟨i0,hi,hz0,hz1,hz2⟩:=info_parts Tryz.info3;have heq:=YD;cases A with
 | none =>
  go_enter Tryz.func109,Tryz.ntmps109;go_wp2_with fail;go_ret;have h0:n=0:=by
   cases n with
   | zero=>rfl
   | succ n=>obtain ⟨ad,e,_⟩:=hl.2.2 (by omega);cases e
  subst h0;have hl0:l=[]:=List.length_eq_zero_iff.1 hl.1.symm;subst hl0;exact ⟨⟨_,rfl,kF _ _ _ _⟩,ai⟩
 | some ad =>
  have iK:(w.alloc (.cells #[] 3)).ownsRow w.heap.size 3 1 (.slice (some ⟨w.heap.size,0,none⟩) 0 0) 0 []:=World.ownsRow_lit w #[] 0 (zG _) (by simp only [maxLen];omega) (by simp);have hb0:=(dK w).alloc (zG _) (.cells #[] 3);go_enter Tryz.func109,Tryz.ntmps109;go_wp2_with (at_builtin;refine nU rfl (.tmp 5) (.tmp 6) 48 rfl w.heap.size 3 i0 (.int .i64 0) 1 8 Tryz.underlying48 hi hz0 hz1 hz2 rfl (by decide) _ 0 _ rfl iK (some ad) n c (intCells l) rfl (hl.below hb0).2 (qI l) (by simp only [maxLen];omega) (by omega) (by first | (simp;done) | (simp;omega)) ?_;intro v' w4 hown4 hgrow4 uj);rw [Nat.zero_add] at hown4;have hb4:af w w4:=uU hb0 (zG _) hgrow4 (λg h=>(iK.lt g h).1);clear hgrow4 uj;go_wp2_with fail;go_ret;exact ⟨⟨_,rfl,hown4⟩,hb4⟩
def dV (w:World) (b:Nat) (q:Q):Prop:=w.heap[b]? = some (.cells #[.int .i64 q.node,.int .i64 q.room,.int .i64 q.a_,.int .i64 q.service,.int .i64 q.aI,.int .i64 q.aP,.slice q.A q.n q.c] 47 (0,0))
theorem dV.new (w:World) (q:Q):dV (w.alloc (.cells #[.int .i64 q.node,.int .i64 q.room,.int .i64 q.a_,.int .i64 q.service,.int .i64 q.aI,.int .i64 q.aP,.slice q.A q.n q.c] 47)) w.heap.size q:=aA w _
theorem dV.below {w w':World} {b:Nat} {q:Q} (h:dV w b q) (hb:af w w'):dV w' b q:=au hb h
theorem dV.cells {w:World} {b:Nat} {q:Q} (h:dV w b q):w.cell? ⟨b,0,none⟩=some (.int .i64 q.node)/\w.cell? ⟨b,1,none⟩=some (.int .i64 q.room)/\w.cell? ⟨b,2,none⟩=some (.int .i64 q.a_)/\w.cell? ⟨b,3,none⟩=some (.int .i64 q.service)/\w.cell? ⟨b,4,none⟩=some (.int .i64 q.aI)/\w.cell? ⟨b,5,none⟩=some (.int .i64 q.aP)/\w.cell? ⟨b,6,none⟩=some (.slice q.A q.n q.c) :=
 ⟨ah h 0 _ rfl,ah h 1 _ rfl,ah h 2 _ rfl,ah h 3 _ rfl,ah h 4 _ rfl,ah h 5 _ rfl,ah h 6 _ rfl⟩
def Gi (b:Nat) (x:C) (v:ag) (i a t:Int) (w w':World) (e:Ending):Prop :=
 e=.returned (.tuple #[.int .i64 (K.aG x.nd x.l x.s x.r v i a t).1,.int .i64 (K.aG x.nd x.l x.s x.r v i a t).2])/\w.grownBy w' (some b) /\
  ((K.aG x.nd x.l x.s x.r v i a t).2=0->∃ V' EZ,qY w' b x V' (v.length + 1) EZ (K.req x.r i).node ((K.aG x.nd x.l x.s x.r v i a t).1 + (K.req x.r i).service)/\Ints w' V' (v.length + 1) (v ++ [i])/\∀ ad,V'=some ad->w.heap.size<=ad.block)
theorem EW {b:Nat} {x:C} {v:ag} {i a t er:Int} {w w':World} (h:K.aG x.nd x.l x.s x.r v i a t=(0,er)) (h0:er ≠ 0) (hb:af w w'):Gi b x v i a t w w' (.returned (.tuple #[.int .i64 0,.int .i64 er])):=by
 unfold Gi;rw [h];exact ⟨rfl,jg (qy w _) hb,λh1=>absurd h1 h0⟩
theorem Ints.set {w:World} {A:aj} {n:Nat} {l:ag} (h:Ints w A n l) {g i:Nat} (u:Value) (hg:∀ ad,A=some ad->ad.block ≠ g):Ints (w.setCell ⟨g,i,none⟩ u) A n l :=
 ⟨h.1,h.2.1,λh0=>by
  obtain ⟨ad,e,hc⟩:=h.2.2 h0;refine ⟨ad,e,λj y hy=>?_⟩;exact (lg (iG w ⟨g,i,none⟩ u _ (by rw [add_block];exact hg ad e))).trans (hc j y hy)⟩
theorem alC {b:Nat} {x:C} {V A':aj} {vn vc c':Nat} {v:ag} {i:Nat} {q:Q} {a t fb:Int} {w w8:World} (h:K.aG x.nd x.l x.s x.r v i a t=(fb,0)) (hq:K.req x.r i=q) (hv:vn=v.length) (hT:qY w8 b x V vn vc a t) (hb:af w w8)
  (hI:Ints w8 A' (vn + 1) (v ++ [(i:Int)])) (hA0:∀ ad,A'=some ad->w.heap.size<=ad.block) (hlt:b < w.heap.size) :
  Gi b x v i a t w (((w8.setCell ⟨b,9,none⟩ (.slice A' (vn + 1) c')).setCell ⟨b,10,none⟩ (.int .i64 q.node)).setCell ⟨b,11,none⟩ (.int .i64 (fb + q.service))).drew (.returned (.tuple #[.int .i64 fb,.int .i64 0])):=by
 unfold Gi;rw [h,hq,<-hv];have hA:∀ ad,A'=some ad->ad.block ≠ b:=λad e=>by have:=hA0 ad e;omega
 refine ⟨rfl,?_,λ_=>⟨A',c',?_,?_,hA0⟩⟩
 ·exact jg (oh (oh (oh (jg (qy w (some b)) hb) b _ _ rfl) b _ _ rfl) b _ _ rfl) ai.drew
 ·exact di (di (di hT 9 _) 10 _) 11 _
 ·exact (((hI.set _ hA).set _ hA).set _ hA).below ai.drew
theorem alB (b:Nat) (x:C) (V:aj) (vn vc:Nat) (v:ag) (i:Nat) (q:Q) (a t:Int) (w:World) (hx:At w x) (hT:qY w b x V vn vc a t) (hV:Ints w V vn v) (hvn:vn<=100000) (hne:K.aZ x.nd x.l=0) (ha:0<=a/\a < x.nd) (hq:x.r[i]? = some q) (hno:0<=q.node/\q.node < x.nd) (ht:0<=t/\t<=1000000)
  (hse:0<=q.service/\q.service<=1000000) (hen:x.s.end_<=1000000) :
  ay 187 #[.pointer (some ⟨b,0,none⟩),.int .i64 i] w λe w'=>Gi b x v i a t w w' e:=by
 have him:i < x.m:=by rw [hx.bf.1];exact (zE.1 hq).1
 obtain ⟨-,p0,p1,p2,p3,p4,p5,p6,p7,p8,p9,p10,p11⟩:=hT.at_ ai;obtain ⟨ad,q',hB,hgq,hwq,e0,e1,e2,e3,e4,e5,e6⟩:=hx.bf.at_ him;rw [hq] at hgq;injection hgq with hgq;subst hgq;have fQ:=zC (K.lZ hq);have fU:=hx.b4 q (zD hq);obtain ⟨w1,hw1⟩:=zB (w.alloc (.cells #[.int .i64 q.node,.int .i64 q.room,.int .i64 q.a_,.int .i64 q.service,.int .i64 q.aI,.int .i64 q.aP,.slice q.A q.n q.c] 47));have jT:dV w1 w.heap.size q:=by rw [hw1];exact dV.new w q
 have b1:=aH hw1;obtain ⟨i0,i1⟩:=zJ (a:=i) (b:=x.m) (by omega);have hT1:=hT.below b1;have p9a:(w.alloc (.cells #[.int .i64 q.node,.int .i64 q.room,.int .i64 q.a_,.int .i64 q.service,.int .i64 q.aI,.int .i64 q.aP,.slice q.A q.n q.c] 47)).cell? ⟨b,9,none⟩=some (.slice V vn vc):=by rw [<-hw1];exact ah hT1 9 _ rfl
 rw [hB] at p8;have HB:=zC hB;clear hq hB;go_enter Tryz.func187,Tryz.ntmps187;go_wp2_with fail;rw [<-hw1];clear hw1 p0 p1 p2 p3 p4 p5 p6 p7 p8 p9 p10 p11 p9a e0 e1 e2 e3 e4 e5 e6 i0 i1;refine (yT V vn vc v _ (hV.below b1) (by omega)).mono ?_;rintro e w2 ⟨⟨v1,rfl,hown2⟩,b2⟩;have hb2:=(b2.alloc b2.size (.cells #[.int .i64 i] 3));have MR:(w2.alloc (.cells #[.int .i64 i] 3)).ownsRow w1.heap.size 3 1 v1 vn (intCells v):=hown2.alloc _;go_wp2_with (at_builtin;refine wU rfl (.tmp 23) (.tmp 25) rfl w1.heap.size v1 vn v rfl MR w2.heap.size i rfl (bU _ _ _ rfl) (by omega) (by rw [aF];have:=b2.size;omega) ?_;intro v' w3 hown3 hgrow3 SC);have b3:af w w3:=bel b1 (uU hb2 (zG _) hgrow3 (λg h=>(MR.lt g h).1));have b13:af w1 w3:=uU hb2 (zG _) hgrow3 (λg h=>(MR.lt g h).1);have hvl:vn=v.length:=hV.1;obtain ⟨A',c',rfl,BC⟩:=o_ hown3 (by simp [hvl]);have hAb:∀ ad,A'=some ad->w1.heap.size<=ad.block:=λad e=>(hown3.lt _ (by rw [e];rfl)).1;have tY:=jT.below b13;clear hown2 MR hgrow3 SC hb2 b2 hown3 jT hT1 b13;obtain ⟨-,p0,p1,p2,p3,p4,p5,p6,p7,p8,p9,p10,p11⟩:=(hT.below b3).at_ ai;obtain ⟨q0,q1,q2,q3,q4,q5,q6⟩:=tY.cells;have P6:=zC hvl;clear hvl;cases d1:decide (x.s.day < q.aI);rotate_left
 ·have HX:=zC (show K.aG x.nd x.l x.s x.r v i a t=(0,17) by unfold K.aG;rw [fQ.out,if_pos (.inl (by simpa using d1))]);go_wp2_with fail;go_quiet (fail);go_wp2_with fail;go_ret2
  exact EW HX.out (by decide) (below_drewN b3 _)
 cases d2:decide (q.aP < x.s.day);rotate_left
 ·have HX:=zC (show K.aG x.nd x.l x.s x.r v i a t=(0,17) by unfold K.aG;rw [fQ.out,if_pos (.inr (by simpa using d2))]);go_wp2_with fail;go_quiet (fail);go_wp2_with fail;go_ret2
  exact EW HX.out (by decide) (below_drewN b3 _)
 have HD:=zC (show ¬ (x.s.day < (K.req x.r i).aI\/(K.req x.r i).aP < x.s.day) by rw [fQ.out];simp at d1 d2;omega);go_wp2_with fail;go_quiet (fail);obtain ⟨w4,hw4⟩:=zB (w3.drewN nq);rw [<-hw4];have iw:af w3 w4:=by rw [hw4];exact below_drewN ai _
 have b4:=bel b3 iw;have qA:=BC.below iw;have G5:=tY.below iw;clear hw4 p0 p1 p2 p3 p4 p5 p6 p7 p8 p9 p10 p11 q0 q1 q2 q3 q4 q5 q6 d1 d2 BC tY;obtain ⟨-,p0,p1,p2,p3,p4,p5,p6,p7,p8,p9,p10,p11⟩:=(hT.below b4).at_ ai;rw [HB.out] at p8;have mZ:=hx.below b4;have f2:=ak.cell p2;have f3:=ak.cell p3;have f4:=ak.cell p4;have f5:=ak.cell p5;have f6:=ak.cell p6;have f7:=ak.cell p7;have f8:=ak.cell p8;have CF:=λj:ak w4=>fits_any x.s (some ad) x.m x.d x.r A' (vn + 1) c' (v ++ [(i:Int)]) j.val ((mZ.below j.property).gW) mZ.b2 (by rw [<-HB.out];exact (mZ.below j.property).bf) mZ.b3 mZ.b4 (qA.below j.property) (by omega);cases hf:T.fits x.s x.r (v ++ [(i:Int)])
 ·simp only [hf] at CF;have HX:=zC (show K.aG x.nd x.l x.s x.r v i a t=(0,20) by unfold K.aG;rw [if_neg HD.out,if_pos hf]);clear hf;go_wp2_with fail;refine fV (by kernel_rfl) (by kernel_rfl) ?_;repeat (go_big_quiet_step ((go_at_call 121;exact ak.calls (CF _))))
  refine wpQuiet_nil ?_;rintro w5 ⟨⟨_,b5⟩,rfl⟩;go_wp2_with fail;go_ret2
  exact EW HX.out (by decide) (bel b4 b5)
 simp only [hf] at CF;have HF:=zC (show ¬ (T.fits x.s x.r (v ++ [(i:Int)])=false) by rw [hf];simp);clear hf;go_wp2_with fail;refine fV (by kernel_rfl) (by kernel_rfl) ?_;repeat (go_big_quiet_step ((go_at_call 121;exact ak.calls (CF _))))
 refine wpQuiet_nil ?_;rintro w5 ⟨⟨_,bJ⟩,rfl⟩;have b5:=bel b4 bJ;have g_:=qA.below bJ;have RI:=G5.below bJ;clear p0 p1 p2 p3 p4 p5 p6 p7 p8 p9 p10 p11 f2 f3 f4 f5 f6 f7 f8 CF qA G5 mZ;obtain ⟨q0,q1,q2,q3,q4,q5,q6⟩:=RI.cells;go_wp2_with fail;refine (acB b x V vn vc v a t q.node _ (hx.below b5) (hT.below b5) (hV.below b5) (by omega) hne ha hno ht).mono ?_;rintro e w6 ⟨rfl,dI⟩;have b6:=bel b5 dI;have dS:=g_.below dI;have hQ6:=RI.below dI;clear q0 q1 q2 q3 q4 q5 q6 g_ RI;have HR:=zC (λh=>K.rX (nd:=x.nd) (l:=x.l) (s:=x.s) (r:=x.r) (v:=v) (a:=a) (t:=t) (node:=q.node) h);have HW0:=K.jY x.nd x.l a (T.weight x.s x.r v) q.node;obtain ⟨t1,ht1⟩:=zB ((K.reach x.nd x.l x.s x.r v a t q.node).1);obtain ⟨er,her⟩:=zB ((K.reach x.nd x.l x.s x.r v a t q.node).2);rw [<-ht1,<-her];have HT1:=zC ht1;have FB:=zC her;clear ht1 her HW0;cases h0:(er == 0)
 ·have h0':(er != 0)=true:=by simp [bne,h0]
  have hne0:er ≠ 0:=by simpa using h0
  have HX:=zC (show K.aG x.nd x.l x.s x.r v i a t=(0,er) by unfold K.aG;rw [if_neg HD.out,if_neg HF.out,fQ.out,<-FB.out,if_pos hne0]);have Px:=zC hne0;clear h0 hne0;go_wp2_with fail;go_ret2
  exact EW HX.out Px.out b6
 have h0':(er != 0)=false:=by simp [bne,h0]
 have hee:er=0:=by simpa using h0
 have Dy:=zC (show ¬ ((K.reach x.nd x.l x.s x.r v a t q.node).2 ≠ 0) by rw [<-FB.out,hee];simp);obtain ⟨hr1,hr2,hr3,hr4⟩:=HR.out (by rw [<-FB.out];exact hee);rw [<-HT1.out] at hr3 hr4;subst hee;have tb0:0<=t1:=by omega
 have tb1:t1<=1000000:=by omega
 clear hr1 hr2 hr3 HR h0;obtain ⟨q0,q1,q2,q3,q4,q5,q6⟩:=hQ6.cells;go_wp2_with fail;refine (YO q.A q.n q.c q.l t1 q.service _ (hwq.below b6) fU).mono ?_;rintro e w7 ⟨rfl,Bh⟩;have b7:=bel b6 Bh;have oz:=dS.below Bh;have RJ:=hQ6.below Bh;clear q0 q1 q2 q3 q4 q5 q6 dS hQ6;have Ar:=zC (λh=>H.oZ (l:=q.l) (t:=t1) (s:=q.service) h);obtain ⟨fb,hfb⟩:=zB ((H.fit q.l t1 q.service).1);obtain ⟨ok,hok⟩:=zB ((H.fit q.l t1 q.service).2);rw [<-hfb,<-hok];have sK:=zC hfb;have aY:=zC hok;clear hfb hok;cases hko:ok
 ·have HX:=zC (show K.aG x.nd x.l x.s x.r v i a t=(0,19) by unfold K.aG;rw [if_neg HD.out,if_neg HF.out,fQ.out,if_neg Dy.out,<-HT1.out,if_pos (by rw [<-aY.out];exact hko)]);clear hko;go_wp2_with fail;go_ret2
  exact EW HX.out (by decide) b7
 have Aw:=zC (show ¬ ((H.fit q.l t1 q.service).2=false) by rw [<-aY.out,hko];simp);obtain ⟨-,-,-,hf1,hf2⟩:=Ar.out (by rw [<-aY.out];exact hko);rw [<-sK.out] at hf1 hf2;subst hko;have hf0:0<=fb:=by omega
 clear Ar;obtain ⟨q0,q1,q2,q3,q4,q5,q6⟩:=RJ.cells;obtain ⟨-,p0,p1,p2,p3,p4,p5,p6,p7,p8,p9,p10,p11⟩:=(hT.below b7).at_ ai;have hwrap:IntKind.i64.wrap (fb + q.service)=fb + q.service:=dh _ (by omega);by_cases h3:x.s.end_ < fb + q.service
 ·have HX:=zC (show K.aG x.nd x.l x.s x.r v i a t=(0,18) by unfold K.aG;rw [if_neg HD.out,if_neg HF.out,fQ.out,if_neg Dy.out,<-HT1.out,if_neg Aw.out,if_pos (by rw [<-sK.out];exact h3)]);go_wp2_with fail;go_quiet (fail);go_wp2_with fail;go_ret2
  exact EW HX.out (by decide) (below_drewN b7 _)
 have HX:=zC (show K.aG x.nd x.l x.s x.r v i a t=(fb,0) by unfold K.aG;rw [if_neg HD.out,if_neg HF.out,fQ.out,if_neg Dy.out,<-HT1.out,if_neg Aw.out,if_neg (by rw [<-sK.out];exact h3),<-sK.out]);go_wp2_with fail;go_quiet (fail);obtain ⟨w8,hw8⟩:=zB (w7.drewN nq);rw [<-hw8];have rq:af w7 w8:=by rw [hw8];exact below_drewN ai _
 have b8:=bel b7 rq;have GX:=oz.below rq;have hQ8:=RJ.below rq;clear hw8 p0 p1 p2 p3 p4 p5 p6 p7 p8 p9 p10 p11 q0 q1 q2 q3 q4 q5 q6 oz RJ;obtain ⟨q0,q1,q2,q3,q4,q5,q6⟩:=hQ8.cells;have xw:=hT.below b8;have TI:b < w.heap.size:=lt_of_block hT;obtain ⟨-,p0,p1,p2,p3,p4,p5,p6,p7,p8,p9,p10,p11⟩:=xw.at_ ai;have fz:∀ k,w8.frozen? ⟨b,k,none⟩=false:=λk=>by
  have h9:w8.heap[b]? = some (.cells _ 220 (0,0)):=xw;simp [World.frozen?,h9]
 have fz9:=fz 9;have am7:=fz 10;have am8:=fz 11;clear fz;go_wp2_with fail;go_region
 all_goals go_wp2_with fail
 all_goals
  go_ret2
  exact alC HX.out fQ.out P6.out xw b8 GX (λad e=>by have:=hAb ad e;have:=b1.size;omega) TI
theorem T.al1 {l:ag} (h:∀ x ∈ l,0<=x):0<=T.sum l:=by
 induction l with
 | nil=>simp [T.sum]
 | cons x l ih =>
  have h1:=h x dJ;have h2:=ih (λy hy=>h y (dN _ hy));simp only [T.sum];omega
theorem T.aem {s:S} {r:List Q} {l:ag} (h:T.load s r l=false):T.weight s r l=-1:=by simp [T.weight,h]
theorem T.amB {s:S} {r:List Q} {l:ag} (h:T.load s r l=true):0<=T.weight s r l:=by
 obtain ⟨hc,_,hr⟩:=T.mO h;have h1:=(T.DY hc).2.1;have h2:0<=T.sum (T.loads r l):=T.al1 (λx hx=>by
  obtain ⟨k,hk⟩:=List.mem_iff_getElem?.1 hx;exact (T.Nr hr hk).1)
 simp only [T.weight,h,if_true];omega
theorem bI.cells {w:World} {b:Nat} {s:S} (h:bI w b s):w.cell? ⟨b,0,none⟩=some (.int .i64 s.day)/\w.cell? ⟨b,1,none⟩=some (.int .i64 s.ax)/\w.cell? ⟨b,2,none⟩=some (.int .i64 s.start)/\w.cell? ⟨b,3,none⟩=some (.int .i64 s.end_)/\w.cell? ⟨b,4,none⟩=some (.int .i64 s.aU)/\w.cell? ⟨b,5,none⟩=some (.slice s.A s.n s.c) :=
 ⟨ah h 0 _ rfl,ah h 1 _ rfl,ah h 2 _ rfl,ah h 3 _ rfl,ah h 4 _ rfl,ah h 5 _ rfl⟩
theorem K.XD {nd:Int} {r:List Q} {l:ag} {k:Nat} {x:Int} (h:l[k]? = some x):(l.drop k).all (λi=>decide ((K.req r i).node < nd))=(decide ((K.req r x).node < nd) && (l.drop (k + 1)).all λi=>decide ((K.req r i).node < nd)):=D6 h
theorem akE (x:C) (V:aj) (vn vc:Nat) (v:ag) (w:World) (hx:At w x) (hV:Ints w V vn v) (hvn:vn<=1000000000) :
  ay 186 #[.agg #[.int .i64 x.nd,.slice x.A x.n x.c],fG x.s,.slice x.B x.m x.d,.slice V vn vc] w (bg w (K.right x.nd x.l x.s x.r v)):=by
 have b0:=((dK w).alloc (zG _) (.cells #[.int .i64 x.nd,.slice x.A x.n x.c] 24)).alloc (by rw [aF];omega) (.cells #[.int .i64 x.s.day,.int .i64 x.s.ax,.int .i64 x.s.start,.int .i64 x.s.end_,.int .i64 x.s.aU,.slice x.s.A x.s.n x.s.c] 63);have SZ:=aF w (.cells #[.int .i64 x.nd,.slice x.A x.n x.c] 24);have hP:=(Net.new w x.nd x.A x.n x.c).below (ai.alloc (zG _) (.cells #[.int .i64 x.s.day,.int .i64 x.s.ax,.int .i64 x.s.start,.int .i64 x.s.end_,.int .i64 x.s.aU,.slice x.s.A x.s.n x.s.c] 63));have hS:=bI.new (w.alloc (.cells #[.int .i64 x.nd,.slice x.A x.n x.c] 24)) x.s;rw [SZ] at hS;have p0:=hP.c0;have p1:=hP.c1;go_enter Tryz.func186,Tryz.ntmps186;go_wp2_with fail;obtain ⟨w0,hw0⟩:=zB ((w.alloc (.cells #[.int .i64 x.nd,.slice x.A x.n x.c] 24)).alloc (.cells #[.int .i64 x.s.day,.int .i64 x.s.ax,.int .i64 x.s.start,.int .i64 x.s.end_,.int .i64 x.s.aU,.slice x.s.A x.s.n x.s.c] 63));rw [<-hw0] at b0 hP hS ⊢;clear hw0 p0 p1 SZ;refine (xN x.nd x.A x.n x.c x.l _ (aX.below hx.net b0) hx.b1).mono ?_;rintro e w1 ⟨rfl,b1⟩;have hP:=hP.below b1;have hS:=hS.below b1;have hb:=bel b0 b1;clear b0 b1;have p0:=hP.c0;have p1:=hP.c1;obtain ⟨s0,s1,s2,s3,s4,s5⟩:=hS.cells;cases h1:(K.aZ x.nd x.l == 0)
 ·have HX:=zC (show K.right x.nd x.l x.s x.r v=false by simp [K.right,h1]);have h1':(K.aZ x.nd x.l != 0)=true:=by simp [bne,h1]
  clear h1;go_wp2_with fail;go_ret;exact ⟨aK HX.out.symm,hb⟩
 have h1':(K.aZ x.nd x.l != 0)=false:=by simp [bne,h1]
 have HE:=zC h1;clear h1;go_wp2_with fail;refine (VU x.s x.B x.m x.d x.r V vn vc v _ (hx.below hb).gW hx.b2 (hx.below hb).bf hx.b3 hx.b4 (hV.below hb) hvn).mono ?_;rintro e w2 ⟨rfl,b2⟩;have hP:=hP.below b2;have hS:=hS.below b2;have hb:=bel hb b2;clear b2 p0 p1 s0 s1 s2 s3 s4 s5;have p0:=hP.c0;have p1:=hP.c1;obtain ⟨s0,s1,s2,s3,s4,s5⟩:=hS.cells;cases h2:T.load x.s x.r v
 ·have HX:=zC (show K.right x.nd x.l x.s x.r v=false by simp [K.right,h2]);have hw:(T.weight x.s x.r v == -1)=true:=by rw [T.aem h2];rfl
  clear h2;go_wp2_with fail;go_ret;exact ⟨aK HX.out.symm,hb⟩
 have hw:(T.weight x.s x.r v == -1)=false:=by have:=T.amB h2;simp;omega
 have HL:=zC h2;clear h2;by_cases h3:x.s.ax < x.nd
 ·have HX:=zC (show K.right x.nd x.l x.s x.r v=v.all λi=>decide ((K.req x.r i).node < x.nd) by simp only [K.right];rw [HE.out,HL.out];simp [h3]);have hset:=zC (T.EN (T.mO HL.out).2.1);go_wp2_with fail;go_loopw [30] (λvi wr=>∃ k:Nat,vi=.int .i64 k/\k<=vn/\Hid (K.right x.nd x.l x.s x.r v=(v.drop k).all λi=>decide ((K.req x.r i).node < x.nd))/\af w2 wr) (λvi _=>vn - (intOf vi).toNat)
  case atStart=>exact ⟨0,rfl,by omega,HX.out,ai⟩
  case round =>
   obtain ⟨k,rfl,hk,hr,hbr⟩:=hrel;by_cases hlt:k < vn
   ·obtain ⟨jJ,i,rfl,hi,ci⟩:=(hV.below (bel hb hbr)).at_ hlt;have HS:=zC (K.XD (nd:=x.nd) (r:=x.r) hi);obtain ⟨hi0,hi1⟩:=hset.out i (zD hi);obtain ⟨j,rfl⟩:∃ j:Nat,i=(j:Int):=⟨i.toNat,by omega⟩;have hjm:j < x.m:=by rw [hx.bf.1];omega
    obtain ⟨ad,q,hB,hgq,hwq,e0,e1,e2,e3,e4,e5,e6⟩:=(hx.bf.below (bel hb hbr)).at_ hjm;have fQ:=zC (K.lZ hgq);have hP3:=hP.below hbr;have p0:=hP3.c0;obtain ⟨j0,j1⟩:=zJ (a:=j) (b:=x.m) (by omega);clear hi hgq;by_cases hn:q.node < x.nd
    ·have HN:=zC (show K.right x.nd x.l x.s x.r v=(v.drop (k + 1)).all λi=>decide ((K.req x.r i).node < x.nd) by rw [hr.out,HS.out,fQ.out];simp [hn]);rw [hB];go_wp2_with fail;go_quiet (fail);go_wp2_with fail;go_roundw
     case rel=>exact ⟨k + 1,by go_num,by omega,HN.out,below_drewN hbr _⟩
     case measure=>simp [intOf];omega
    ·have HN:=zC (show K.right x.nd x.l x.s x.r v=false by rw [hr.out,HS.out,fQ.out];simp [hn]);rw [hB];go_wp2_with fail;go_quiet (fail);go_wp2_with fail;go_ret;exact ⟨aK HN.out.symm,below_drewN (bel hb hbr) _⟩
   ·have HN:=zC (show K.right x.nd x.l x.s x.r v=true by rw [hr.out,dF (by rw [<-hV.1];omega)];rfl);go_wp2_with fail;go_ret;exact ⟨aK HN.out.symm,bel hb hbr⟩
 ·have HX:=zC (show K.right x.nd x.l x.s x.r v=false by simp [K.right,h3]);go_wp2_with fail;go_ret;exact ⟨aK HX.out.symm,hb⟩
theorem xQ {fn:Func} {p u v:Tmp} {ty:TypeId} (h:fn.results=#[.cell p ty,.tmp u,.tmp v]) (tmps:Array Value) (P:Program) (w:World) :
  (results fn tmps).run P w =
   ((asAddr (tmps.getD p undef)).run P w).andThen λa w₁=>((loadVar ty a).run P w₁).andThen λx w₂=>.ok (.tuple #[x,tmps.getD u undef,tmps.getD v undef]) w₂:=by
 simp only [results,h];simp [Sem.run_bind,Result.andThen]
namespace K
theorem UK {nd:Int} {l:List Ro} {s:S} {r:List Q} {o:ag} {k:Nat} {i a t:Int} (hi:o[k]? = some i) (h:(aG nd l s r (o.take k) i a t).2=0) :
  aB nd l s r (o.take k) a t (o.drop k)=⟨(aG nd l s r (o.take k) i a t).1 :: (aB nd l s r (o.take (k + 1)) (req r i).node ((aG nd l s r (o.take k) i a t).1 + (req r i).service) (o.drop (k + 1))).times,
   (aB nd l s r (o.take (k + 1)) (req r i).node ((aG nd l s r (o.take k) i a t).1 + (req r i).service) (o.drop (k + 1))).a,(aB nd l s r (o.take (k + 1)) (req r i).node ((aG nd l s r (o.take k) i a t).1 + (req r i).service) (o.drop (k + 1))).t,
   (aB nd l s r (o.take (k + 1)) (req r i).node ((aG nd l s r (o.take k) i a t).1 + (req r i).service) (o.drop (k + 1))).e⟩:=by
 obtain ⟨hk,e⟩:=zE.1 hi;rw [jE hk,e,take_snoc hi];conv=>lhs;unfold aB
 rw [if_neg (by rw [h];simp)]
theorem UJ {nd:Int} {l:List Ro} {s:S} {r:List Q} {o:ag} {k:Nat} {i a t:Int} (hi:o[k]? = some i) (h:(aG nd l s r (o.take k) i a t).2 ≠ 0) :
  aB nd l s r (o.take k) a t (o.drop k)=⟨[],a,t,(aG nd l s r (o.take k) i a t).2⟩:=by
 obtain ⟨hk,e⟩:=zE.1 hi;rw [jE hk,e];conv=>lhs;unfold aB
 rw [if_pos h]
theorem Ad {nd:Int} {l:List Ro} {s:S} {r:List Q} {o:ag} (h:right nd l s r o=true):aZ nd l=0/\T.load s r o=true/\s.ax < nd/\∀ i ∈ o,(req r i).node < nd:=by
 simp only [right,dH,beq_iff_eq,gu,List.all_eq_true] at h;exact ⟨h.1,h.2.1,h.2.2.1,h.2.2.2⟩
theorem tu {s:S} (h:T.check s=0):(0<=s.day/\s.day<=100000)/\(0<=s.ax/\s.ax<=99)/\0<=s.start/\s.start<=s.end_/\s.end_<=1000000:=by
 have h':=h;unfold T.check at h;split at h
 ·simp at h
 ·rename_i h1
  split at h
  ·simp at h
  ·rename_i h2
   have g1:=T.lS.1 (by simpa using h1:T.aT s.day 0 100000=true);have g2:T.lT s=true:=by simpa using h2
   simp only [T.lT,dH,gu] at g2;have g3:=T.lS.1 g2.1;omega
theorem Dl {q:Q} (h:T.right q=true):(0<=q.node/\q.node<=99)/\(0<=q.service/\q.service<=1000000)/\H.right q.l=true:=by
 simp only [T.right,dH] at h;exact ⟨T.lS.1 h.1,T.lS.1 h.2.2.2.1,h.2.2.2.2.2.2⟩
end K
theorem ajD {w w':World} {base:Nat} {e:TypeId} {size:Nat} {v:Value} {n:Nat} {xs:List Value} {r:Option Nat} (h:w.ownsRow base e size v n xs) (hg:w.grownBy w' r) (hne:∀ g,v.ownBlock=some g->some g ≠ r):w'.ownsRow base e size v n xs:=by
 obtain ⟨hl,h1 | ⟨g,cap,cur,hv,hbg,hh,r⟩⟩:=h
 ·exact ⟨hl,.inl h1⟩
 ·exact ⟨hl,.inr ⟨g,cap,cur,hv,hbg,iV hg hh (hne g (by rw [hv];rfl)),r⟩⟩
theorem Ints.grown {w w':World} {A:aj} {n:Nat} {l:ag} {r:Option Nat} (h:Ints w A n l) (hg:w.grownBy w' r) (hA:∀ ad,A=some ad->some ad.block ≠ r):Ints w' A n l:=⟨h.1,h.2.grown hg hA⟩
def kZ (w:World) (g:Nat) (S T:Value) (en:Int):Prop:=w.heap[g]? = some (.cells #[.int .i64 0,S,T,.int .i64 en] 80 (0,0))
theorem kZ.below {w w':World} {g B:Nat} {S T:Value} {en:Int} (h:kZ w g S T en) (hb:Below B w w') (hg:g < B):kZ w' g S T en:=(hb.block g hg).trans h
theorem kZ.set {w:World} {g:Nat} {S T:Value} {en:Int} (h:kZ w g S T en) (S' T':Value) (en':Int):kZ ((((w.setCell ⟨g,0,none⟩ (.int .i64 0)).setCell ⟨g,1,none⟩ S').setCell ⟨g,2,none⟩ T').setCell ⟨g,3,none⟩ (.int .i64 en')) g S' T' en':=di (di (di (di h 0 _) 1 _) 2 _) 3 _
theorem kZ.cells {w:World} {g:Nat} {S T:Value} {en:Int} (h:kZ w g S T en):w.cell? ⟨g,0,none⟩=some (.int .i64 0)/\w.cell? ⟨g,1,none⟩=some S/\w.cell? ⟨g,2,none⟩=some T/\w.cell? ⟨g,3,none⟩=some (.int .i64 en) :=
 ⟨ah h 0 _ rfl,ah h 1 _ rfl,ah h 2 _ rfl,ah h 3 _ rfl⟩
theorem kZ.free {w:World} {g:Nat} {S T:Value} {en:Int} (h:kZ w g S T en) (i:Nat):w.frozen? ⟨g,i,none⟩=false:=by
 unfold kZ at h;simp [World.frozen?,h]
def J3 (w w':World) (x:K.JY) (e:Ending):Prop :=
 (∃ A n c A' n' c',e=.returned (.tuple #[.agg #[.int .i64 0,.slice A n c,.slice A' n' c',.int .i64 x.bC.end_],.int .i64 x.e,.int .i64 x.n])/\Ints w' A n x.bC.stops/\Ints w' A' n' x.bC.times/\(∀ ad,A=some ad->w.heap.size<=ad.block)/\∀ ad,A'=some ad->w.heap.size<=ad.block)/\af w w'
theorem Dk {w w':World} {er:Int} {n:Nat} {y:K.JY} (h:y=⟨K.Tr.zero,er,n⟩) (hb:af w w'):J3 w w' y (.returned (.tuple #[.agg #[.int .i64 0,.slice none 0 0,.slice none 0 0,.int .i64 0],.int .i64 er,.int .i64 n])):=by
 subst h;exact ⟨⟨none,0,0,none,0,0,rfl,iQ _,iQ _,λad e=>(nomatch e),λad e=>(nomatch e)⟩,hb⟩
structure FZ (x:C) (o:ag) (w4:World) (k:Nat) (tv:Value) (V:aj) (vc:Nat) (a t:Int) (ts:ag) (wr:World):Prop where
 aB:K.aB x.nd x.l x.s x.r [] x.s.ax x.s.start o=⟨ts ++ (K.aB x.nd x.l x.s x.r (o.take k) a t (o.drop k)).times,(K.aB x.nd x.l x.s x.r (o.take k) a t (o.drop k)).a,(K.aB x.nd x.l x.s x.r (o.take k) a t (o.drop k)).t,(K.aB x.nd x.l x.s x.r (o.take k) a t (o.drop k)).e⟩
 len:ts.length=k
 st:qY wr w4.heap.size x V k vc a t
 ints:Ints wr V k (o.take k)
 own:wr.ownsRow (w4.heap.size + 1) 3 1 tv k (intCells ts)
 apart:∀ ad,V=some ad->some ad.block ≠ tv.ownBlock
 a0:0<=a/\a < x.nd
 t0:0<=t/\t<=1000000
 bw:af w4 wr
theorem FZ.served {x:C} {o:ag} {w4 wr w5 w6:World} {k:Nat} {tv tv':Value} {V V2:aj} {vc OL:Nat} {a t i:Int} {ts:ag} (h:FZ x o w4 k tv V vc a t ts wr) (hi:o[k]? = some i) (hl:(K.aG x.nd x.l x.s x.r (o.take k) i a t).2=0) (hg:wr.grownBy w5 (some w4.heap.size))
  (hT:qY w5 w4.heap.size x V2 (k + 1) OL (K.req x.r i).node ((K.aG x.nd x.l x.s x.r (o.take k) i a t).1 + (K.req x.r i).service)) (hI:Ints w5 V2 (k + 1) (o.take k ++ [i])) (hA:∀ ad,V2=some ad->wr.heap.size<=ad.block)
  (hown:w6.ownsRow (w4.heap.size + 1) 3 1 tv' (k + 1) (intCells (ts ++ [(K.aG x.nd x.l x.s x.r (o.take k) i a t).1]))) (hgrow:(w5.alloc (.cells #[.int .i64 (K.aG x.nd x.l x.s x.r (o.take k) i a t).1] 3)).grownBy w6 tv.ownBlock) (hat:tv'.ownBlock=tv.ownBlock\/tv'.ownBlock=some (w5.alloc (.cells #[.int .i64 (K.aG x.nd x.l x.s x.r (o.take k) i a t).1] 3)).heap.size)
  (hno:0<=(K.req x.r i).node/\(K.req x.r i).node < x.nd) (hse:0<=(K.req x.r i).service):FZ x o w4 (k + 1) tv' V2 OL (K.req x.r i).node ((K.aG x.nd x.l x.s x.r (o.take k) i a t).1 + (K.req x.r i).service) (ts ++ [(K.aG x.nd x.l x.s x.r (o.take k) i a t).1]) w6:=by
 have hlt:∀ g,tv.ownBlock=some g->w4.heap.size + 1<=g/\g < wr.heap.size:=λg e=>h.own.lt g e;have hs5:=hg.size;have hs6:=hgrow.size;rw [aF] at hs6;have ba:af w5 (w5.alloc (.cells #[.int .i64 (K.aG x.nd x.l x.s x.r (o.take k) i a t).1] 3)):=ai.alloc (zG _) _;have hV:∀ ad,V2=some ad->some ad.block ≠ tv.ownBlock:=λad e e2=>by
  have:=hA ad e;have:=(hlt _ e2.symm).2;omega
 obtain ⟨-,-,-,l4,l5,l6,l7⟩:=K.zW hl;obtain ⟨-,r2,r3,-⟩:=K.rX l4;obtain ⟨-,-,-,f1,f2⟩:=H.oZ l5;refine ⟨?_,by rw [cZ,h.len];rfl,iV hgrow (hT.below ba) (λe=>by have:=(hlt _ e.symm).1;omega),?_,hown,?_,hno,?_,?_⟩
 ·rw [h.aB,K.UK hi hl,jb];rfl
 ·rw [take_snoc hi];exact (hI.below ba).grown hgrow hV
 ·intro ad e;rcases hat with hat | hat
  ·rw [hat];exact hV ad e
  ·rw [hat,aF];intro e2;injection e2 with e2;obtain ⟨lM,e3,c0⟩:=(hI.2.2 (by omega));rw [e] at e3;injection e3 with e3;subst e3;have h0:(intCells (o.take k ++ [i]))[0]? = some ((intCells (o.take k ++ [i]))[0]'(by simp [intCells])):=zF _;have h1:=cell_lt (c0 0 _ h0);rw [add_block] at h1;omega
 ·have:=h.t0;rw [l6] at l7 ⊢;omega
 ·have b5:af w4 w5:=dY h.bw hg (λg e=>by injection e with e;omega);have b6:af w4 (w5.alloc (.cells #[.int .i64 (K.aG x.nd x.l x.s x.r (o.take k) i a t).1] 3)):=bel b5 ba;exact dY b6 hgrow (λg e=>by have:=(hlt _ e).1;omega)
theorem K.Ji {nd:Int} {l:List Ro} {s:S} {r:List Q} {o:ag} (hr:K.right nd l s r o=true) {y:K.P_} (h:K.aB nd l s r [] s.ax s.start o=y) :
  K.run nd l s r o=if y.e ≠ 0 then ⟨K.Tr.zero,y.e,y.times.length⟩ else if (K.reach nd l s r o y.a y.t s.ax).2 ≠ 0 then ⟨K.Tr.zero,(K.reach nd l s r o y.a y.t s.ax).2,o.length⟩ else ⟨⟨o,y.times,(K.reach nd l s r o y.a y.t s.ax).1⟩,0,o.length⟩:=by
 unfold K.run;rw [h,hr];simp
theorem ac2 {w w5 w':World} {g:Nat} {A A':aj} {n c n' c':Nat} {o ts:ag} {en er m:Int} {y:K.JY} (h:y=⟨⟨o,ts,en⟩,0,o.length⟩) (hr:er=0) (hm:m=o.length) (hb:af w w5) (hA:Ints w5 A n o) (hT:Ints w5 A' n' ts) (aal:∀ ad,A=some ad->g < ad.block) (aam:∀ ad,A'=some ad->g < ad.block) (hg:w.heap.size<=g)
  (hw:w'=((((w5.setCell ⟨g,0,none⟩ (.int .i64 0)).setCell ⟨g,1,none⟩ (.slice A n c)).setCell ⟨g,2,none⟩ (.slice A' n' c')).setCell ⟨g,3,none⟩ (.int .i64 en))) :
  J3 w w' y (.returned (.tuple #[.agg #[.int .i64 0,.slice A n c,.slice A' n' c',.int .i64 en],.int .i64 er,.int .i64 m])):=by
 subst h hr hm hw;have hgA:∀ ad,A=some ad->ad.block ≠ g:=λad e=>by have:=aal ad e;omega
 have MJ:∀ ad,A'=some ad->ad.block ≠ g:=λad e=>by have:=aam ad e;omega
 exact ⟨⟨A,n,c,A',n',c',rfl,(((hA.set _ hgA).set _ hgA).set _ hgA).set _ hgA,(((hT.set _ MJ).set _ MJ).set _ MJ).set _ MJ,λad e=>by have:=aal ad e;omega,λad e=>by have:=aam ad e;omega⟩,(((hb.setCell hg _).setCell hg _).setCell hg _).setCell hg _⟩
theorem mX {w w5:World} {g:Nat} (hb:af w w5) (hg:w.heap.size<=g) (a b c d:Value):af w ((((w5.setCell ⟨g,0,none⟩ a).setCell ⟨g,1,none⟩ b).setCell ⟨g,2,none⟩ c).setCell ⟨g,3,none⟩ d):=(((hb.setCell hg _).setCell hg _).setCell hg _).setCell hg _
theorem run_any (x:C) (V:aj) (vn vc:Nat) (o:ag) (w:World) (hx:At w x) (hV:Ints w V vn o) (hvn:vn<=100000) :
  ay 134 #[.agg #[.int .i64 x.nd,.slice x.A x.n x.c],fG x.s,.slice x.B x.m x.d,.slice V vn vc] w λe w'=>J3 w w' (K.run x.nd x.l x.s x.r o) e:=by
 obtain ⟨w1,hw1⟩:=zB (w.alloc (.cells #[.int .i64 x.nd,.slice x.A x.n x.c] 24));obtain ⟨w2,hw2⟩:=zB (w1.alloc (.cells #[.int .i64 x.s.day,.int .i64 x.s.ax,.int .i64 x.s.start,.int .i64 x.s.end_,.int .i64 x.s.aU,.slice x.s.A x.s.n x.s.c] 63));obtain ⟨w3,hw3⟩:=zB (w2.alloc (.cells #[.int .i64 0,.slice none 0 0,.slice none 0 0,.int .i64 0] 80));have z1:w1.heap.size=w.heap.size + 1:=by rw [hw1];exact aF _ _
 have z2:w2.heap.size=w.heap.size + 1 + 1:=by rw [hw2,aF,z1]
 have z3:w3.heap.size=w.heap.size + 1 + 1 + 1:=by rw [hw3,aF,z2]
 have b01:=aH hw1;have b12:=aH hw2;have bQ:=aH hw3;have hP:Net w3 w.heap.size x.nd x.A x.n x.c:=by
  have h1:Net w1 w.heap.size x.nd x.A x.n x.c:=by rw [hw1];exact Net.new _ _ _ _ _
  exact (h1.below b12).below bQ
 have hS:bI w3 (w.heap.size + 1) x.s:=by
  have h1:bI w2 (w.heap.size + 1) x.s:=by rw [<-z1,hw2];exact bI.new _ _
  exact h1.below bQ
 have hR:kZ w3 (w.heap.size + 1 + 1) (.slice none 0 0) (.slice none 0 0) 0:=by rw [<-z2,hw3];exact aA _ _
 have b3:=bel (bel b01 b12) bQ;have p0:=hP.c0;have p1:=hP.c1;obtain ⟨s0,s1,s2,s3,s4,s5⟩:=hS.cells;have Z3:=zC z3;rw [hw3,hw2,hw1] at p0 p1 s0 s1 s2 s3 s4 s5;go_enter Tryz.func134,Tryz.ntmps134;go_wp2_with fail;rw [<-hw1,<-hw2,<-hw3];clear hw1 hw2 hw3 z1 z2 z3 b01 b12 bQ p0 p1 s0 s1 s2 s3 s4 s5;refine (akE x V vn vc o _ (hx.below b3) (hV.below b3) (by omega)).mono ?_;rintro e w4 ⟨rfl,iw⟩;have hP:=hP.below iw;have hS:=hS.below iw;have hR:=hR.below iw (by rw [Z3.out];omega);have b4:=bel b3 iw;clear b3;have p0:=hP.c0;have p1:=hP.c1;obtain ⟨s0,s1,s2,s3,s4,s5⟩:=hS.cells;obtain ⟨r0,r1,r2,r3⟩:=hR.cells;have f0:=hR.free 0;have f1:=hR.free 1;have f2:=hR.free 2;have f3:=hR.free 3;cases hr:K.right x.nd x.l x.s x.r o
 ·have HX:=zC (show K.run x.nd x.l x.s x.r o=⟨K.Tr.zero,1,0⟩ by unfold K.run;rw [if_pos hr]);clear hr;go_wp2_with fail;refine jc (v:=.tuple #[.agg #[.int .i64 0,.slice none 0 0,.slice none 0 0,.int .i64 0],.int .i64 1,.int .i64 0]) ?_ rfl ?_
  ·obtain ⟨z0,z1,z2,z3⟩:=(hR.set (.slice none 0 0) (.slice none 0 0) 0).cells;rw [xQ rfl];simp [go_sem,z0,z1,z2,z3]
  ·exact Dk HX.out (mX b4 (by omega) _ _ _ _)
 ·obtain ⟨hne,hld,hdp,hno⟩:=K.Ad hr;obtain ⟨hck,hset,hall⟩:=T.mO hld;obtain ⟨-,⟨d0,d1⟩,st0,st1,tC⟩:=K.tu hck;have DI:=zC (T.EN hset);have Ap:=zC hall;have FM:=zC hno;have j_:=zC hr;have iq:=zC hne;clear hr hne hld hset hall hck hno;have hT0:qY (w4.alloc (.cells #[.int .i64 x.nd,.slice x.A x.n x.c,.int .i64 x.s.day,.int .i64 x.s.ax,.int .i64 x.s.start,.int .i64 x.s.end_,.int .i64 x.s.aU,.slice x.s.A x.s.n x.s.c,.slice x.B x.m x.d,.slice none 0 0,.int .i64 x.s.ax,.int .i64 x.s.start] 220)) w4.heap.size x none 0 0 x.s.ax x.s.start:=aA w4 _;have uu:FZ x o w4 0 (.slice none 0 0) none 0 x.s.ax x.s.start [] (w4.alloc (.cells #[.int .i64 x.nd,.slice x.A x.n x.c,.int .i64 x.s.day,.int .i64 x.s.ax,.int .i64 x.s.start,.int .i64 x.s.end_,.int .i64 x.s.aU,.slice x.s.A x.s.n x.s.c,.slice x.B x.m x.d,.slice none 0 0,.int .i64 x.s.ax,.int .i64 x.s.start] 220)) :=
   ⟨by simp,rfl,hT0,by rw [List.take_zero];exact iQ _,kF _ _ _ _,λad e=>(nomatch e),⟨d0,hdp⟩,⟨st0,by omega⟩,ai.alloc (zG _) _⟩
  clear hT0;have hrs:w.heap.size + 1 + 1 < w4.heap.size:=by have:=iw.size;have:=Z3.out;omega
  go_wp2_with fail;go_loopw [12,37] (λtv vi wr=>∃ (k:Nat) (V':aj) (EZ:Nat) (a t:Int) (ts:ag),vi=.int .i64 k/\k<=vn/\FZ x o w4 k tv V' EZ a t ts wr) (λ_ vi _=>vn - (intOf vi).toNat)
  case atStart=>exact ⟨0,none,0,_,_,[],rfl,by omega,uu⟩
  case round =>
   clear uu p0 p1 s0 s1 s2 s3 s4 s5 r0 r1 r2 r3 f0 f1 f2 f3;obtain ⟨k,V',EZ,a,t,ts,rfl,hk,hrr⟩:=hrel;have hbr:=hrr.bw;have hbw:=bel b4 hbr;have hSr:=hS.below hbr;obtain ⟨s0,s1,s2,s3,s4,s5⟩:=hSr.cells;by_cases hlt:k < vn
   ·obtain ⟨jJ,i,rfl,hi,ci⟩:=(hV.below hbw).at_ hlt;have him:=zD hi;obtain ⟨hi0,hi1⟩:=DI.out i him;obtain ⟨j,rfl⟩:∃ j:Nat,i=(j:Int):=⟨i.toNat,by omega⟩;obtain ⟨q,hq⟩:∃ q,x.r[j]? = some q:=⟨_,zF (by omega)⟩;obtain ⟨⟨n0,-⟩,⟨e0,e1⟩,-⟩:=K.Dl (Ap.out q (zD hq));have hnq:=FM.out _ him;rw [K.lZ hq] at hnq;have fQ:=zC (K.lZ hq);have HI:=zC hi;have HRR:=zC hrr;have hst:=hrr.st;have hint:=hrr.ints;have ha0:=hrr.a0;have ht0:=hrr.t0;clear hi him hrr;go_wp2_with fail;refine (alB w4.heap.size x V' k EZ (o.take k) j q a t _ (hx.below hbw) hst hint (by omega) iq.out ha0 hq ⟨n0,hnq⟩ ht0 ⟨e0,e1⟩ tC).mono ?_;rintro e w5 ⟨rfl,hg,hok⟩;have hb5:af w4 w5:=dY hbr hg (λg e=>by injection e with e;omega);have Hl:=bel b4 hb5;have nM:=hR.below hb5 hrs;obtain ⟨lb,hlb⟩:=zB ((K.aG x.nd x.l x.s x.r (o.take k) j a t).1);obtain ⟨le,hle⟩:=zB ((K.aG x.nd x.l x.s x.r (o.take k) j a t).2);rw [<-hlb,<-hle];have oK:=zC hlb;have wG:=zC hle;have aY:=zC hok;clear hlb hle hok hq hst hint;cases h0:(le == 0)
    ·have h0':(le != 0)=true:=by simp [bne,h0]
     have hne0:le ≠ 0:=by simpa using h0
     have HX:=zC (show K.run x.nd x.l x.s x.r o=⟨K.Tr.zero,le,k⟩ by
      rw [K.Ji j_.out HRR.out.aB,K.UJ HI.out (by rw [<-wG.out];exact hne0),<-wG.out,if_pos hne0];simp [HRR.out.len])
     obtain ⟨r0,r1,r2,r3⟩:=nM.cells;have f0:=nM.free 0;have f1:=nM.free 1;have f2:=nM.free 2;have f3:=nM.free 3;clear h0 hne0;go_wp2_with fail;refine jc (v:=.tuple #[.agg #[.int .i64 0,.slice none 0 0,.slice none 0 0,.int .i64 0],.int .i64 le,.int .i64 k]) ?_ rfl ?_
     ·obtain ⟨z0,z1,z2,z3⟩:=(nM.set (.slice none 0 0) (.slice none 0 0) 0).cells;rw [xQ rfl];simp [go_sem,z0,z1,z2,z3]
     ·exact Dk HX.out (mX Hl (by omega) _ _ _ _)
    ·have h0':(le != 0)=false:=by simp [bne,h0]
     have hee:le=0:=by simpa using h0
     have HZ:=zC (show (K.aG x.nd x.l x.s x.r (o.take k) j a t).2=0 by rw [<-wG.out];exact hee);subst hee;have hown5:(w5.alloc (.cells #[.int .i64 lb] 3)).ownsRow (w4.heap.size + 1) 3 1 u12 k (intCells ts):=(ajD HRR.out.own hg (λg e e2=>by have:=(HRR.out.own.lt g e).1;injection e2 with e2;omega)).alloc _;have hs5:=hg.size;have hs4:=hbr.size;have HG:=zC hg;have aaz:0<=(K.req x.r j).node/\(K.req x.r j).node < x.nd:=by rw [fQ.out];exact ⟨n0,hnq⟩
     have aaO:0<=(K.req x.r j).service:=by rw [fQ.out];exact e0
     have aey:=zC aaz;have aeC:=zC aaO;clear h0 hg aaz aaO;go_wp2_with (at_builtin;refine wU rfl (.tmp 53) (.tmp 55) rfl (w4.heap.size + 1) u12 k ts rfl hown5 w5.heap.size lb rfl (bU _ _ _ rfl) (by omega) (by rw [aF];omega) ?_;intro tv' w6 hown6 hgrow6 gy);rw [oK.out] at hown6 hgrow6 gy;obtain ⟨V2,OL,hT2,hI2,hA2⟩:=aY.out HZ.out;rw [List.length_take,show min k o.length=k by have:=hV.1;omega] at hT2 hI2;have hN:=zC (HRR.out.served HI.out HZ.out HG.out hT2 hI2 hA2 hown6 hgrow6 gy aey.out aeC.out);clear hown6 hgrow6 gy hT2 hI2 hA2 hown5;go_wp2_with fail;go_roundw
     case rel=>exact ⟨k + 1,V2,OL,_,_,_,by go_num,by omega,hN.out⟩
     case measure=>simp [intOf];omega
   ·have hkv:vn=k:=by omega
    subst hkv;have hto:o.take vn=o:=fD (by rw [<-hV.1];omega);have hdo:o.drop vn=[]:=dF (by rw [<-hV.1];omega);have hl0:=hrr.aB;rw [hto,hdo] at hl0;have hl1:K.aB x.nd x.l x.s x.r [] x.s.ax x.s.start o=⟨ts,a,t,0⟩:=by rw [hl0];simp [K.aB]
    have o5:=K.Ji j_.out hl1;simp only [ne_eq,not_true_eq_false,if_false] at o5;have aS:=zC o5;have HRR:=zC hrr;have hst:=hrr.st;have hint:=hrr.ints;rw [hto] at hint;have ha0:=hrr.a0;have ht0:=hrr.t0;clear hrr hto hdo hl0 hl1 o5;go_wp2_with fail;refine (acB w4.heap.size x V' vn EZ o a t x.s.ax _ (hx.below hbw) hst hint (by omega) iq.out ha0 ⟨d0,hdp⟩ ht0).mono ?_;rintro e w5 ⟨rfl,hb5⟩;have Hl:=bel hbw hb5;have nM:=hR.below (bel hbr hb5) hrs;obtain ⟨ed,Tm⟩:=zB ((K.reach x.nd x.l x.s x.r o a t x.s.ax).1);obtain ⟨re,hre⟩:=zB ((K.reach x.nd x.l x.s x.r o a t x.s.ax).2);rw [<-Tm,<-hre];have HED:=zC Tm;have wJ:=zC hre;have hown5:=own_below HRR.out.own hb5;have hlen:=hV.1;have bM:=zC hlen;clear Tm hre hst hint hlen;obtain ⟨r0,r1,r2,r3⟩:=nM.cells;have f0:=nM.free 0;have f1:=nM.free 1;have f2:=nM.free 2;have f3:=nM.free 3;cases h0:(re == 0)
    ·have h0':(re != 0)=true:=by simp [bne,h0]
     have hne0:re ≠ 0:=by simpa using h0
     have HX:=zC (show K.run x.nd x.l x.s x.r o=⟨K.Tr.zero,re,vn⟩ by
      rw [aS.out,<-wJ.out,if_pos hne0,<-bM.out])
     clear h0 hne0;go_wp2_with fail;refine jc (v:=.tuple #[.agg #[.int .i64 0,.slice none 0 0,.slice none 0 0,.int .i64 0],.int .i64 re,.int .i64 vn]) ?_ rfl ?_
     ·obtain ⟨z0,z1,z2,z3⟩:=(nM.set (.slice none 0 0) (.slice none 0 0) 0).cells;rw [xQ rfl];simp [go_sem,z0,z1,z2,z3]
     ·exact Dk HX.out (mX Hl (by omega) _ _ _ _)
    ·have h0':(re != 0)=false:=by simp [bne,h0]
     have hee:re=0:=by simpa using h0
     have HX:=zC (show K.run x.nd x.l x.s x.r o=⟨⟨o,ts,ed⟩,0,o.length⟩ by
      rw [aS.out,<-wJ.out,hee,HED.out];simp)
     subst hee;clear h0 r0 r1 r2 r3 f0 f1 f2 f3;go_wp2_with fail;refine (yT V vn vc o _ (hV.below Hl) (by omega)).mono ?_;rintro e w6 ⟨⟨v6,rfl,hown6⟩,dI⟩;obtain ⟨A6,c6,rfl,dS⟩:=o_ hown6 bM.out;have Bo:∀ ad,A6=some ad->w5.heap.size<=ad.block:=λad e=>(hown6.lt _ (by rw [e];rfl)).1;have TZ:=own_below hown5 dI;have sQ:=zC (show vn=ts.length from HRR.out.len.symm);obtain ⟨A7,c7,rfl,oz⟩:=o_ TZ sQ.out;have uY:∀ ad,A7=some ad->w4.heap.size + 1<=ad.block:=λad e=>(TZ.lt _ (by rw [e];rfl)).1;have jK:=nM.below dI (by have:=hb5.size;have:=hbr.size;omega);obtain ⟨r0,r1,r2,r3⟩:=jK.cells;have f0:=jK.free 0;have f1:=jK.free 1;have f2:=jK.free 2;have f3:=jK.free 3;have hs5:w4.heap.size<=w5.heap.size:=by have:=hb5.size;have:=hbr.size;omega
     clear hown6 TZ hown5;go_wp2_with fail;refine jc (v:=.tuple #[.agg #[.int .i64 0,.slice A6 vn c6,.slice A7 vn c7,.int .i64 ed],.int .i64 0,.int .i64 vn]) ?_ rfl ?_
     ·obtain ⟨z0,z1,z2,z3⟩:=(jK.set (.slice A6 vn c6) (.slice A7 vn c7) ed).cells;rw [xQ rfl];simp [go_sem,z0,z1,z2,z3]
     ·exact ac2 HX.out rfl (by rw [bM.out]) (bel Hl dI) dS oz (λad e=>by have:=Bo ad e;omega) (λad e=>by have:=uY ad e;omega) (by omega) rfl
theorem agc (A B:aj) (n m c d:Nat) (la lb:ag) (w:World) (hla:Ints w A n la) (hlb:Ints w B m lb) (hn:n<=1000000000) (hm:m<=1000000000) :
  ay 135 #[.slice A n c,.slice B m d] w (bg w (decide (la=lb))):=by
 by_cases hnm:n=m
 ·obtain rfl:=hnm;go_enter Tryz.func135,Tryz.ntmps135;go_wp2_with fail;go_loopw [13] (λvi wr=>∃ k:Nat,vi=.int .i64 k/\k<=n/\Hid (la.take k=lb.take k)/\af w wr) (λvi _=>n - (intOf vi).toNat)
  case atStart=>exact ⟨0,rfl,by omega,rfl,ai⟩
  case round =>
   obtain ⟨k,rfl,hk,hr,hb⟩:=hrel;by_cases hlt:k < n
   ·obtain ⟨ad,o,rfl,hg,c0⟩:=(hla.below hb).at_ hlt;obtain ⟨lM,o2,rfl,hg2,X6⟩:=(hlb.below hb).at_ hlt;have HN:=zC (VN hg hg2 hr.out);clear hg hg2;by_cases ho:o=o2
    ·have HX:=zC (HN.out.2 ho);subst ho;go_wp2_with fail;go_quiet (fail);go_wp2_with fail;go_roundw
     case rel=>exact ⟨k + 1,by go_num,by omega,HX.out,below_drewN hb _⟩
     case measure=>simp [intOf];omega
    ·have HX:=zC (λh=>ho (HN.out.1 h));have q2:(o == o2)=false:=by simpa using ho
     go_wp2_with fail;go_quiet (fail);go_wp2_with fail;go_ret;exact ⟨aK (Eq.symm (zI (λh=>HX.out (by rw [h])))),below_drewN hb _⟩
   ·have HX:=zC (show la=lb by
     have h:=hr.out;rw [fD (by rw [<-hla.1];omega),fD (by rw [<-hlb.1];omega)] at h;exact h)
    go_wp2_with fail;go_ret;exact ⟨aK (Eq.symm (zH HX.out)),hb⟩
 ·have HX:=zC (show ¬ la=lb from λh=>hnm (by rw [hla.1,hlb.1,h]));have q1:(((n:Nat):Int) != ((m:Nat):Int))=true:=by simp;omega
  go_enter Tryz.func135,Tryz.ntmps135;go_wp2_with fail;go_ret;exact ⟨aK (Eq.symm (zI HX.out)),ai⟩
namespace K
def same (a b:Tr):Bool:=decide (a.stops=b.stops) && (decide (a.times=b.times) && (a.end_ == b.end_))
def check (nd:Int) (l:List Ro) (s:S) (r:List Q) (t:Tr):Bool:=((run nd l s r t.stops).e == 0) && (decide ((run nd l s r t.stops).bC.times=t.times) && ((run nd l s r t.stops).bC.end_ == t.end_))
end K
theorem K.abj (nd:Int) (l:List Ro) (s:S) (r:List Q):∀ (o v:ag) (a t:Int),(K.aB nd l s r v a t o).times.length<=o.length:=by
 intro o;induction o with
 | nil=>intro v a t;exact zG _
 | cons i o ih =>
  intro v a t;unfold K.aB;split
  ·simp
  ·simp only [dQ];have:=ih (v ++ [i]) (K.req r i).node ((K.aG nd l s r v i a t).1 + (K.req r i).service);omega
theorem K.adA (nd:Int) (l:List Ro) (s:S) (r:List Q) (o:ag):(K.run nd l s r o).bC.stops.length<=o.length/\(K.run nd l s r o).bC.times.length<=o.length:=by
 have h:=K.abj nd l s r o [] s.ax s.start;unfold K.run;split
 ·simp [K.Tr.zero]
 ·split
  ·simp [K.Tr.zero]
  ·split
   ·simp [K.Tr.zero]
   ·exact ⟨zG _,h⟩
def jr (w:World) (g:Nat) (h:Int) (S T:Value) (en:Int):Prop:=w.heap[g]? = some (.cells #[.int .i64 h,S,T,.int .i64 en] 80 (0,0))
theorem jr.below {w w':World} {g:Nat} {h:Int} {S T:Value} {en:Int} (x:jr w g h S T en) (hb:af w w'):jr w' g h S T en:=au hb x
theorem jr.cells {w:World} {g:Nat} {h:Int} {S T:Value} {en:Int} (x:jr w g h S T en):w.cell? ⟨g,0,none⟩=some (.int .i64 h)/\w.cell? ⟨g,1,none⟩=some S/\w.cell? ⟨g,2,none⟩=some T/\w.cell? ⟨g,3,none⟩=some (.int .i64 en) :=
 ⟨ah x 0 _ rfl,ah x 1 _ rfl,ah x 2 _ rfl,ah x 3 _ rfl⟩
structure TV where
 sh:Int
 A:Option Addr
 n:Nat
 c:Nat
 A':Option Addr
 n':Nat
 c':Nat
 t:K.Tr
structure AZ (w:World) (x:TV):Prop where
 stops:Ints w x.A x.n x.t.stops
 times:Ints w x.A' x.n' x.t.times
 b1:x.n<=1000000000
 b2:x.n'<=1000000000
theorem AZ.below {w w':World} {x:TV} (h:AZ w x) (hb:af w w'):AZ w' x:=⟨h.stops.below hb,h.times.below hb,h.b1,h.b2⟩
theorem alf (x y:TV) (w:World) (hx:AZ w x) (hy:AZ w y) :
  ay 137 #[.agg #[.int .i64 x.sh,.slice x.A x.n x.c,.slice x.A' x.n' x.c',.int .i64 x.t.end_],.agg #[.int .i64 y.sh,.slice y.A y.n y.c,.slice y.A' y.n' y.c',.int .i64 y.t.end_]] w (bg w (K.same x.t y.t)):=by
 obtain ⟨w1,hw1⟩:=zB ((w.alloc (.cells #[.int .i64 x.sh,.slice x.A x.n x.c,.slice x.A' x.n' x.c',.int .i64 x.t.end_] 80)).alloc (.cells #[.int .i64 y.sh,.slice y.A y.n y.c,.slice y.A' y.n' y.c',.int .i64 y.t.end_] 80));have SZ:=aF w (.cells #[.int .i64 x.sh,.slice x.A x.n x.c,.slice x.A' x.n' x.c',.int .i64 x.t.end_] 80);have hb:af w w1:=by rw [hw1];exact (ai.alloc (zG _) _).alloc (by rw [SZ];omega) _
 have h1:jr w1 w.heap.size x.sh (.slice x.A x.n x.c) (.slice x.A' x.n' x.c') x.t.end_:=by rw [hw1];exact aO (aA w _) _
 have h2:jr w1 (w.heap.size + 1) y.sh (.slice y.A y.n y.c) (.slice y.A' y.n' y.c') y.t.end_:=by rw [hw1];exact bU _ _ _ SZ.symm
 obtain ⟨a0,a1,a2,a3⟩:=h1.cells;obtain ⟨c0,c1,c2,c3⟩:=h2.cells;clear SZ;rw [hw1] at a0 a1 a2 a3 c0 c1 c2 c3;go_enter Tryz.func137,Tryz.ntmps137;go_wp2_with fail;rw [<-hw1];clear hw1 a0 a1 a2 a3 c0 c1 c2 c3;refine (EU x.A y.A x.n y.n x.c y.c x.t.stops y.t.stops _ (hx.below hb).stops (hy.below hb).stops hx.b1 hy.b1).mono ?_;rintro e w2 ⟨rfl,hb2⟩;have h1:=h1.below hb2;have h2:=h2.below hb2;have hb:=bel hb hb2;clear hb2;obtain ⟨a0,a1,a2,a3⟩:=h1.cells;obtain ⟨c0,c1,c2,c3⟩:=h2.cells;cases k1:decide (x.t.stops=y.t.stops)
 ·have HX:=zC (show K.same x.t y.t=false by unfold K.same;rw [k1];rfl);clear k1;go_wp2_with fail;go_ret;exact ⟨aK HX.out.symm,hb⟩
 have HX:=zC (show K.same x.t y.t=(decide (x.t.times=y.t.times) && (x.t.end_ == y.t.end_)) by unfold K.same;rw [k1];rfl);clear k1;go_wp2_with fail;refine (EU x.A' y.A' x.n' y.n' x.c' y.c' x.t.times y.t.times _ (hx.below hb).times (hy.below hb).times hx.b2 hy.b2).mono ?_;rintro e w3 ⟨rfl,hb3⟩;have h1:=h1.below hb3;have h2:=h2.below hb3;have hb:=bel hb hb3;clear hb3 a0 a1 a2 a3 c0 c1 c2 c3;obtain ⟨a0,a1,a2,a3⟩:=h1.cells;obtain ⟨c0,c1,c2,c3⟩:=h2.cells;cases k2:decide (x.t.times=y.t.times)
 ·have HX:=zC (show K.same x.t y.t=false by rw [HX.out,k2];rfl);clear k2;go_wp2_with fail;go_ret;exact ⟨aK HX.out.symm,hb⟩
 have HX:=zC (show K.same x.t y.t=(x.t.end_ == y.t.end_) by rw [HX.out,k2];rfl);clear k2;go_wp2_with fail;go_ret;exact ⟨aK HX.out.symm,hb⟩
theorem al_ (x:C) (y:TV) (w:World) (hx:At w x) (hy:AZ w y) (hn:y.n<=100000) :
  ay 84 #[.agg #[.int .i64 x.nd,.slice x.A x.n x.c],fG x.s,.slice x.B x.m x.d,.agg #[.int .i64 y.sh,.slice y.A y.n y.c,.slice y.A' y.n' y.c',.int .i64 y.t.end_]] w (bg w (K.check x.nd x.l x.s x.r y.t)):=by
 obtain ⟨w1,hw1⟩:=zB (w.alloc (.cells #[.int .i64 x.nd,.slice x.A x.n x.c] 24));obtain ⟨w2,hw2⟩:=zB (w1.alloc (.cells #[.int .i64 x.s.day,.int .i64 x.s.ax,.int .i64 x.s.start,.int .i64 x.s.end_,.int .i64 x.s.aU,.slice x.s.A x.s.n x.s.c] 63));obtain ⟨w3,hw3⟩:=zB (w2.alloc (.cells #[.int .i64 y.sh,.slice y.A y.n y.c,.slice y.A' y.n' y.c',.int .i64 y.t.end_] 80));have z1:w1.heap.size=w.heap.size + 1:=by rw [hw1];exact aF _ _
 have z2:w2.heap.size=w.heap.size + 1 + 1:=by rw [hw2,aF,z1]
 have b01:=aH hw1;have b12:=aH hw2;have bQ:=aH hw3;have hP:Net w3 w.heap.size x.nd x.A x.n x.c:=by
  have h1:Net w1 w.heap.size x.nd x.A x.n x.c:=by rw [hw1];exact Net.new _ _ _ _ _
  exact (h1.below b12).below bQ
 have hS:bI w3 (w.heap.size + 1) x.s:=by
  have h1:bI w2 (w.heap.size + 1) x.s:=by rw [<-z1,hw2];exact bI.new _ _
  exact h1.below bQ
 have hT:jr w3 (w.heap.size + 1 + 1) y.sh (.slice y.A y.n y.c) (.slice y.A' y.n' y.c') y.t.end_:=by rw [<-z2,hw3];exact aA _ _
 have b3:=bel (bel b01 b12) bQ;have p0:=hP.c0;have p1:=hP.c1;obtain ⟨s0,s1,s2,s3,s4,s5⟩:=hS.cells;obtain ⟨t0,t1,t2,t3⟩:=hT.cells;rw [hw3,hw2,hw1] at p0 p1 s0 s1 s2 s3 s4 s5 t0 t1 t2 t3;go_enter Tryz.func84,Tryz.ntmps84;go_wp2_with fail;rw [<-hw1,<-hw2,<-hw3];clear hw1 hw2 hw3 z1 z2 b01 b12 bQ p0 p1 s0 s1 s2 s3 s4 s5 t0 t1 t2 t3;refine (run_any x y.A y.n y.c y.t.stops _ (hx.below b3) (hy.below b3).stops hn).mono ?_;rintro e w4 ⟨⟨A1,n1,c1,A2,n2,c2,rfl,hI1,hI2,-⟩,iw⟩;have hlen:=K.adA x.nd x.l x.s x.r y.t.stops;obtain ⟨R,hR⟩:=zB (K.run x.nd x.l x.s x.r y.t.stops);rw [<-hR] at hI1 hI2 hlen ⊢;have HR:=zC (show K.check x.nd x.l x.s x.r y.t=((R.e == 0) && (decide (R.bC.times=y.t.times) && (R.bC.end_ == y.t.end_))) by rw [hR];rfl);have hn2:n2<=1000000000:=by rw [hI2.1];have:=hlen.2;have:=hy.stops.1;omega
 clear hR hlen;have hT:=hT.below iw;have hb:=bel b3 iw;have ba:af w4 (w4.alloc (.cells #[.int .i64 0,.slice A1 n1 c1,.slice A2 n2 c2,.int .i64 R.bC.end_] 80)):=ai.alloc (zG _) _;have hT2:jr (w4.alloc (.cells #[.int .i64 0,.slice A1 n1 c1,.slice A2 n2 c2,.int .i64 R.bC.end_] 80)) w4.heap.size 0 (.slice A1 n1 c1) (.slice A2 n2 c2) R.bC.end_:=aA _ _;have hT1:=hT.below ba;obtain ⟨w5,hw5⟩:=zB (w4.alloc (.cells #[.int .i64 0,.slice A1 n1 c1,.slice A2 n2 c2,.int .i64 R.bC.end_] 80));obtain ⟨q0,q1,q2,q3⟩:=hT1.cells;obtain ⟨r0,r1,r2,r3⟩:=hT2.cells;cases k0:(R.e == 0)
 ·have HX:=zC (show K.check x.nd x.l x.s x.r y.t=false by rw [HR.out,k0];rfl);clear hw5;go_wp2_with fail;go_ret;exact ⟨aK HX.out.symm,bel hb ba⟩
 have HX:=zC (show K.check x.nd x.l x.s x.r y.t=(decide (R.bC.times=y.t.times) && (R.bC.end_ == y.t.end_)) by rw [HR.out,k0];rfl);go_wp2_with fail;rw [<-hw5] at ba hT1 hT2 ⊢;have hb5:=bel hb ba;have Q9:=hI2.below ba;clear hw5 q0 q1 q2 q3 r0 r1 r2 r3 k0 HR;refine (agc A2 y.A' n2 y.n' c2 y.c' R.bC.times y.t.times _ Q9 (hy.below hb5).times hn2 hy.b2).mono ?_;rintro e w6 ⟨rfl,dI⟩;have hT1:=hT1.below dI;have hT2:=hT2.below dI;have hb6:=bel hb5 dI;obtain ⟨q0,q1,q2,q3⟩:=hT1.cells;obtain ⟨r0,r1,r2,r3⟩:=hT2.cells;cases k1:decide (R.bC.times=y.t.times)
 ·have HX:=zC (show K.check x.nd x.l x.s x.r y.t=false by rw [HX.out,k1];rfl);clear k1;go_wp2_with fail;go_ret;exact ⟨aK HX.out.symm,hb6⟩
 have HX:=zC (show K.check x.nd x.l x.s x.r y.t=(R.bC.end_ == y.t.end_) by rw [HX.out,k1];rfl);clear k1;go_wp2_with fail;go_ret;exact ⟨aK HX.out.symm,hb6⟩
namespace G
theorem afJ {x:Ro} {k k':Int} (h:carries x k=true) (hk:k'<=k):carries x k'=true:=by
 simp [carries] at h ⊢;omega
theorem Walk.lighter {l:List Ro} {k k' s v t:Int} {e:Nat} (h:Walk l k s v t e) (hk:k'<=k):Walk l k' s v t e:=by
 induction h with
 | nil=>exact Walk.nil
 | snoc u t e x _ hx hc hxu ih=>exact Walk.snoc u t e x ih hx (afJ hc hk) hxu
theorem Walk.append {l:List Ro} {k s u v t1 t2:Int} {e1 e2:Nat} (h1:Walk l k s u t1 e1) (h2:Walk l k u v t2 e2):Walk l k s v (t1 + t2) (e1 + e2):=by
 induction h2 with
 | nil=>simpa using h1
 | snoc w t e x _ hx hc hxu ih =>
  rw [<-Int.add_assoc,<-Nat.add_assoc];exact Walk.snoc w (t1 + t) (e1 + e) x ih hx hc hxu
end G
namespace K
theorem Jp {nd:Int} {l:List Ro} (h:aZ nd l=0) {s k v:Int} (hs:0<=s/\s < nd) (hv:0<=v/\v < nd) :
  (way nd l s k v=-1/\∀ t e,¬ G.Walk l k s v t e)\/(0<=way nd l s k v/\(∃ e,G.Walk l k s v (way nd l s k v) e)/\∀ t e,G.Walk l k s v t e->way nd l s k v<=t):=by
 obtain ⟨m,rfl⟩:∃ m:Nat,nd=(m:Int):=⟨nd.toNat,by omega⟩;exact (OC (k:=k) h (T.lS.2 ⟨hs.1,by omega⟩)).2 v hv.1 hv.2
theorem amy {nd:Int} {l:List Ro} (h:aZ nd l=0) {s k k' v:Int} (hs:0<=s/\s < nd) (hv:0<=v/\v < nd) (hk:k'<=k) (hw:way nd l s k v ≠ -1):way nd l s k' v ≠ -1/\0<=way nd l s k' v/\way nd l s k' v<=way nd l s k v:=by
 rcases Jp (k:=k) h hs hv with ⟨h1,_⟩ | ⟨h1,⟨e,h2⟩,_⟩
 ·exact absurd h1 hw
 ·rcases Jp (k:=k') h hs hv with ⟨_,g2⟩ | ⟨g1,_,g3⟩
  ·exact absurd (h2.lighter hk) (g2 _ _)
  ·have:=g3 _ _ (h2.lighter hk);exact ⟨by omega,g1,this⟩
theorem amz {nd:Int} {l:List Ro} (h:aZ nd l=0) {a b c k k2:Int} (ha:0<=a/\a < nd) (hb:0<=b/\b < nd) (hc:0<=c/\c < nd) (hk:k<=k2) (h1:way nd l a k b ≠ -1) (h2:way nd l b k2 c ≠ -1) :
  way nd l a k c ≠ -1/\0<=way nd l a k c/\way nd l a k c<=way nd l a k b + way nd l b k2 c:=by
 rcases Jp (k:=k) h ha hb with ⟨x,_⟩ | ⟨_,⟨e1,w1⟩,_⟩
 ·exact absurd x h1
 ·rcases Jp (k:=k2) h hb hc with ⟨x,_⟩ | ⟨_,⟨e2,w2⟩,_⟩
  ·exact absurd x h2
  ·have w3:=w1.append (w2.lighter hk);rcases Jp (k:=k) h ha hc with ⟨_,g2⟩ | ⟨g1,_,g3⟩
   ·exact absurd w3 (g2 _ _)
   ·have:=g3 _ _ w3;exact ⟨by omega,g1,this⟩
theorem acD {nd:Int} {l:List Ro} {s:S} {r:List Q} {v:ag} {a t c:Int} (h1:way nd l a (T.weight s r v) c ≠ -1) (h2:t + way nd l a (T.weight s r v) c<=s.end_):reach nd l s r v a t c=(t + way nd l a (T.weight s r v) c,0):=by
 unfold reach;rw [if_neg h1,if_neg (by omega)]
theorem aiE {nd:Int} {l:List Ro} {s:S} {r:List Q} {v:ag} {i a t:Int} (h1:(req r i).aI<=s.day) (h2:s.day<=(req r i).aP) (h3:T.fits s r (v ++ [i])=true) (h4:(reach nd l s r v a t (req r i).node).2=0) (h5:(H.fit (req r i).l (reach nd l s r v a t (req r i).node).1 (req r i).service).2=true)
  (h6:(H.fit (req r i).l (reach nd l s r v a t (req r i).node).1 (req r i).service).1 + (req r i).service<=s.end_):aG nd l s r v i a t=((H.fit (req r i).l (reach nd l s r v a t (req r i).node).1 (req r i).service).1,0):=by
 unfold aG;rw [if_neg (by omega),if_neg (by simp [h3]),if_neg (by simp [h4]),if_neg (by simp [h5]),if_neg (by omega)]
def Dom (nd:Int) (l:List Ro) (s:S) (r:List Q) (v:ag) (a t:Int) (s':S) (r':List Q) (v':ag) (a' t':Int):Prop :=
 ∀ c,0<=c/\c < nd->(reach nd l s r v a t c).2=0->(reach nd l s' r' v' a' t' c).2=0/\0<=(reach nd l s' r' v' a' t' c).1/\(reach nd l s' r' v' a' t' c).1<=(reach nd l s r v a t c).1
theorem Dom.same {nd:Int} {l:List Ro} (hne:aZ nd l=0) {s s':S} {r r':List Q} {v v':ag} {a t t':Int} (ha:0<=a/\a < nd) (hw:T.weight s' r' v'<=T.weight s r v) (h0:0<=t') (ht:t'<=t) (he:s.end_<=s'.end_):Dom nd l s r v a t s' r' v' a t':=by
 intro c hc h;obtain ⟨h1,h2,h3,h4⟩:=rX h;obtain ⟨g1,g2,g3⟩:=amy hne ha hc hw h1;rw [acD g1 (by omega)];exact ⟨rfl,by simp only;omega,by simp only;omega⟩
def Alike (r r':List Q) (o:ag):Prop:=∀ i ∈ o,(req r' i).node=(req r i).node/\(req r' i).service=(req r i).service/\(req r' i).aI=(req r i).aI/\(req r' i).aP=(req r i).aP/\(req r' i).l=(req r i).l
def Fine (nd:Int) (r:List Q) (o:ag):Prop:=∀ i ∈ o,(0<=(req r i).node/\(req r i).node < nd)/\0<=(req r i).service
theorem aiD {nd:Int} {l:List Ro} {s s':S} {r r':List Q} {v v':ag} {i a a' t t':Int} (hd:Dom nd l s r v a t s' r' v' a' t') (aah:s'.day=s.day) (he:s.end_<=s'.end_)
  (hq:(req r' i).node=(req r i).node/\(req r' i).service=(req r i).service/\(req r' i).aI=(req r i).aI/\(req r' i).aP=(req r i).aP/\(req r' i).l=(req r i).l) (hn:0<=(req r i).node/\(req r i).node < nd)
  (hf:T.fits s r (v ++ [i])=true->T.fits s' r' (v' ++ [i])=true) (h:(aG nd l s r v i a t).2=0):(aG nd l s' r' v' i a' t').2=0/\(aG nd l s' r' v' i a' t').1<=(aG nd l s r v i a t).1/\0<=(aG nd l s' r' v' i a' t').1:=by
 obtain ⟨l1,l2,l3,l4,l5,l6,l7⟩:=zW h;obtain ⟨q1,q2,q3,q4,q5⟩:=hq;obtain ⟨d1,d2,d3⟩:=hd _ hn l4;obtain ⟨f1,f2,f3,f4,f5⟩:=H.oZ l5;obtain ⟨m1,m2⟩:=(H.KR f1 (t:=(reach nd l s' r' v' a' t' (req r i).node).1) (o:=(reach nd l s r v a t (req r i).node).1) (by omega) f3 (by omega)).1 l5;have g5:(H.fit (req r' i).l (reach nd l s' r' v' a' t' (req r' i).node).1 (req r' i).service).2=true:=by rw [q1,q2,q5];exact m1
 have hfb:=(H.oZ m1).2.2.2.1;rw [l6] at l7 ⊢;rw [aiE (by omega) (by omega) (hf l3) (by rw [q1];exact d1) g5 (by rw [q1,q2,q5];omega)];simp only;rw [q1,q2,q5];exact ⟨trivial,m2,by omega⟩
theorem Np {nd:Int} {l:List Ro} {s:S} {r:List Q} {v:ag} {i a t:Int} {o:ag} (h:(aB nd l s r v a t (i :: o)).e=0):(aG nd l s r v i a t).2=0 /\
  aB nd l s r v a t (i :: o)=⟨(aG nd l s r v i a t).1 :: (aB nd l s r (v ++ [i]) (req r i).node ((aG nd l s r v i a t).1 + (req r i).service) o).times,(aB nd l s r (v ++ [i]) (req r i).node ((aG nd l s r v i a t).1 + (req r i).service) o).a,(aB nd l s r (v ++ [i]) (req r i).node ((aG nd l s r v i a t).1 + (req r i).service) o).t,(aB nd l s r (v ++ [i]) (req r i).node ((aG nd l s r v i a t).1 + (req r i).service) o).e⟩:=by
 unfold aB at h;split at h
 ·rename_i h1;exact absurd h h1
 ·rename_i h1
  refine ⟨by simpa using h1,?_⟩;conv=>lhs;unfold aB
  rw [if_neg h1]
theorem IQ {nd:Int} {l:List Ro} {s:S} {r:List Q} {v:ag} {i a t:Int} {o:ag} (h:(aG nd l s r v i a t).2=0) :
  aB nd l s r v a t (i :: o)=⟨(aG nd l s r v i a t).1 :: (aB nd l s r (v ++ [i]) (req r i).node ((aG nd l s r v i a t).1 + (req r i).service) o).times,(aB nd l s r (v ++ [i]) (req r i).node ((aG nd l s r v i a t).1 + (req r i).service) o).a,(aB nd l s r (v ++ [i]) (req r i).node ((aG nd l s r v i a t).1 + (req r i).service) o).t,(aB nd l s r (v ++ [i]) (req r i).node ((aG nd l s r v i a t).1 + (req r i).service) o).e⟩:=by
 conv=>lhs;unfold aB
 rw [if_neg (by simp [h])]
def Ahead (a b:ag):Prop:=a.length=b.length/\∀ (k:Nat) (x y:Int),a[k]? = some x->b[k]? = some y->x<=y
theorem Ahead.nil:Ahead [] []:=⟨rfl,λk x y h=>by simp at h⟩
theorem Ahead.cons {x y:Int} {a b:ag} (h:x<=y) (hab:Ahead a b):Ahead (x :: a) (y :: b):=by
 refine ⟨by simp [hab.1],λk u v hu hv=>?_⟩;cases k with
 | zero=>simp at hu hv;omega
 | succ k=>exact hab.2 k u v (by simpa using hu) (by simpa using hv)
theorem aiG {nd:Int} {l:List Ro} (hne:aZ nd l=0) {s s':S} {r r':List Q} (aah:s'.day=s.day) (he:s.end_<=s'.end_):∀ (o v v':ag) (a a' t t':Int),Alike r r' o->Fine nd r o ->
  (∀ p,p <+: o->T.weight s' r' (v' ++ p)<=T.weight s r (v ++ p))->(∀ p,p <+: o->T.fits s r (v ++ p)=true->T.fits s' r' (v' ++ p)=true)->Dom nd l s r v a t s' r' v' a' t'->(aB nd l s r v a t o).e=0 ->
  (aB nd l s' r' v' a' t' o).e=0/\Ahead (aB nd l s' r' v' a' t' o).times (aB nd l s r v a t o).times /\
   Dom nd l s r (v ++ o) (aB nd l s r v a t o).a (aB nd l s r v a t o).t s' r' (v' ++ o) (aB nd l s' r' v' a' t' o).a (aB nd l s' r' v' a' t' o).t:=by
 intro o;induction o with
 | nil=>intro v v' a a' t t' _ _ _ _ hd _;exact ⟨rfl,Ahead.nil,by simpa [aB] using hd⟩
 | cons i o ih =>
  intro v v' a a' t t' hal hfi hw hf hd h;obtain ⟨h1,h2⟩:=Np h;obtain ⟨⟨n1,n2⟩,n3⟩:=hfi i dJ;have hq:=hal i dJ;obtain ⟨g1,g2,g3⟩:=aiD hd aah he hq ⟨n1,n2⟩ (hf [i] (by simp)) h1;have h3:=IQ (o:=o) g1;rw [h2] at h ⊢;rw [h3];simp only at h ⊢;rw [hq.1,hq.2.1];have hd2:Dom nd l s r (v ++ [i]) (req r i).node ((aG nd l s r v i a t).1 + (req r i).service) s' r' (v' ++ [i]) (req r i).node ((aG nd l s' r' v' i a' t').1 + (req r i).service) :=
   Dom.same hne ⟨n1,n2⟩ (hw [i] (by simp)) (by omega) (by omega) he
  obtain ⟨i1,i2,i3⟩:=ih (v ++ [i]) (v' ++ [i]) _ _ _ _ (λj hj=>hal j (dN _ hj)) (λj hj=>hfi j (dN _ hj))
   (λp hp=>by have:=hw (i :: p) (List.cons_prefix_cons.2 ⟨rfl,hp⟩);simpa using this) (λp hp=>by have:=hf (i :: p) (List.cons_prefix_cons.2 ⟨rfl,hp⟩);simpa using this) hd2 h
  refine ⟨i1,Ahead.cons g2 i2,?_⟩;simpa using i3
theorem abf {nd:Int} {l:List Ro} {s:S} {r:List Q}:∀ (o1 v:ag) (a t:Int) (o2:ag),(aB nd l s r v a t o1).e=0 ->
  aB nd l s r v a t (o1 ++ o2)=⟨(aB nd l s r v a t o1).times ++ (aB nd l s r (v ++ o1) (aB nd l s r v a t o1).a (aB nd l s r v a t o1).t o2).times,(aB nd l s r (v ++ o1) (aB nd l s r v a t o1).a (aB nd l s r v a t o1).t o2).a,
   (aB nd l s r (v ++ o1) (aB nd l s r v a t o1).a (aB nd l s r v a t o1).t o2).t,(aB nd l s r (v ++ o1) (aB nd l s r v a t o1).a (aB nd l s r v a t o1).t o2).e⟩:=by
 intro o1;induction o1 with
 | nil=>intro v a t o2 _;simp [aB]
 | cons i o1 ih =>
  intro v a t o2 h;obtain ⟨h1,h2⟩:=Np h;rw [h2] at h;rw [List.cons_append,IQ h1,ih _ _ _ o2 h,h2];simp
theorem aiI {nd:Int} {l:List Ro} {s:S} {r:List Q}:∀ (o v:ag) (a t:Int) (k:Nat),(k<=(aB nd l s r v a t o).times.length->(aB nd l s r v a t (o.take k)).e=0/\(aB nd l s r v a t (o.take k)).times=(aB nd l s r v a t o).times.take k) /\
  ((aB nd l s r v a t o).times.length < k->(aB nd l s r v a t (o.take k)).e=(aB nd l s r v a t o).e/\(aB nd l s r v a t (o.take k)).times=(aB nd l s r v a t o).times):=by
 intro o;induction o with
 | nil=>intro v a t k;simp [aB]
 | cons i o ih =>
  intro v a t k;cases k with
  | zero=>simp [aB]
  | succ k =>
   rw [List.take_succ_cons];by_cases h:(aG nd l s r v i a t).2=0
   ·rw [IQ h,IQ h];obtain ⟨i1,i2⟩:=ih (v ++ [i]) (req r i).node ((aG nd l s r v i a t).1 + (req r i).service) k;simp only [dQ];refine ⟨λhk=>?_,λhk=>?_⟩
    ·obtain ⟨j1,j2⟩:=i1 (by omega);exact ⟨j1,by rw [j2];rfl⟩
    ·obtain ⟨j1,j2⟩:=i2 (by omega);exact ⟨j1,by rw [j2]⟩
   ·have e1:∀ o',aB nd l s r v a t (i :: o')=⟨[],a,t,(aG nd l s r v i a t).2⟩:=λo'=>by
     conv=>lhs;unfold aB
     rw [if_pos h]
    rw [e1,e1];simp
theorem abh {nd:Int} {l:List Ro} {s:S} {r:List Q}:∀ (o v:ag) (a t:Int),((aB nd l s r v a t o).e=0->(aB nd l s r v a t o).times.length=o.length)/\((aB nd l s r v a t o).e ≠ 0->(aB nd l s r v a t o).times.length < o.length):=by
 intro o;induction o with
 | nil=>intro v a t;simp [aB]
 | cons i o ih =>
  intro v a t;by_cases h:(aG nd l s r v i a t).2=0
  ·rw [IQ h];obtain ⟨i1,i2⟩:=ih (v ++ [i]) (req r i).node ((aG nd l s r v i a t).1 + (req r i).service);simp only [dQ];exact ⟨λhk=>by rw [i1 hk],λhk=>by have:=i2 hk;omega⟩
  ·have e1:aB nd l s r v a t (i :: o)=⟨[],a,t,(aG nd l s r v i a t).2⟩:=by
    conv=>lhs;unfold aB
    rw [if_pos h]
   rw [e1];exact ⟨λhk=>absurd hk h,λ_=>by simp⟩
theorem aiF {nd:Int} {l:List Ro} {s:S} {r:List Q}:∀ (o v:ag) (a t:Int),Fine nd r o->0<=a/\a < nd->0<=t->(aB nd l s r v a t o).e=0->(0<=(aB nd l s r v a t o).a/\(aB nd l s r v a t o).a < nd)/\t<=(aB nd l s r v a t o).t:=by
 intro o;induction o with
 | nil=>intro v a t _ ha ht _;exact ⟨ha,Int.le_refl _⟩
 | cons i o ih =>
  intro v a t hf ha ht h;obtain ⟨h1,h2⟩:=Np h;rw [h2] at h ⊢;obtain ⟨n1,n2⟩:=hf i dJ;obtain ⟨-,-,-,l4,l5,l6,-⟩:=zW h1;obtain ⟨-,r2,r3,-⟩:=rX l4;obtain ⟨-,-,-,f4,-⟩:=H.oZ l5;have:=ih (v ++ [i]) (req r i).node ((aG nd l s r v i a t).1 + (req r i).service) (λj hj=>hf j (dN _ hj)) n1 (by omega) h;refine ⟨this.1,?_⟩;have:=this.2;simp only;omega
end K
namespace K
def all (nd:Int) (l:List Ro) (s:S) (r:List Q) (o:ag):P_:=aB nd l s r [] s.ax s.start o
def back (nd:Int) (l:List Ro) (s:S) (r:List Q) (o:ag):Int × Int:=reach nd l s r o (all nd l s r o).a (all nd l s r o).t s.ax
theorem adx (nd:Int) (l:List Ro) (s:S) (r:List Q) (o:ag) :
  (right nd l s r o=false/\run nd l s r o=⟨Tr.zero,1,0⟩) \/
  (right nd l s r o=true/\(all nd l s r o).e ≠ 0/\run nd l s r o=⟨Tr.zero,(all nd l s r o).e,(all nd l s r o).times.length⟩) \/
  (right nd l s r o=true/\(all nd l s r o).e=0/\(back nd l s r o).2 ≠ 0/\run nd l s r o=⟨Tr.zero,(back nd l s r o).2,o.length⟩) \/
  (right nd l s r o=true/\(all nd l s r o).e=0/\(back nd l s r o).2=0/\run nd l s r o=⟨⟨o,(all nd l s r o).times,(back nd l s r o).1⟩,0,o.length⟩):=by
 by_cases hr:right nd l s r o=true
 ·have h:=Ji hr (show aB nd l s r [] s.ax s.start o=all nd l s r o from rfl);by_cases h1:(all nd l s r o).e=0
  ·rw [if_neg (by simp [h1])] at h;by_cases h2:(back nd l s r o).2=0
   ·rw [if_neg (by show ¬ ((back nd l s r o).2 ≠ 0);simp [h2])] at h;exact .inr (.inr (.inr ⟨hr,h1,h2,h⟩))
   ·rw [if_pos (by show (back nd l s r o).2 ≠ 0;exact h2)] at h;exact .inr (.inr (.inl ⟨hr,h1,h2,h⟩))
  ·rw [if_pos h1] at h;exact .inr (.inl ⟨hr,h1,h⟩)
 ·have hr':right nd l s r o=false:=by simpa using hr
  refine .inl ⟨hr',?_⟩;unfold run;rw [if_pos hr']
theorem xY {nd:Int} {l:List Ro} {s:S} {r:List Q} {o:ag} (h:(run nd l s r o).e=0):right nd l s r o=true/\(all nd l s r o).e=0/\(back nd l s r o).2=0/\run nd l s r o=⟨⟨o,(all nd l s r o).times,(back nd l s r o).1⟩,0,o.length⟩:=by
 rcases adx nd l s r o with ⟨_,e⟩ | ⟨_,h1,e⟩ | ⟨_,_,h1,e⟩ | h4
 ·rw [e] at h;simp at h
 ·rw [e] at h;exact absurd h h1
 ·rw [e] at h;exact absurd h h1
 ·exact h4
theorem run_mk {nd:Int} {l:List Ro} {s:S} {r:List Q} {o:ag} (h1:right nd l s r o=true) (h2:(all nd l s r o).e=0) (h3:(back nd l s r o).2=0):run nd l s r o=⟨⟨o,(all nd l s r o).times,(back nd l s r o).1⟩,0,o.length⟩:=by
 rcases adx nd l s r o with ⟨h,_⟩ | ⟨_,h,_⟩ | ⟨_,_,h,_⟩ | ⟨_,_,_,h⟩
 ·rw [h1] at h;cases h
 ·exact absurd h2 h
 ·exact absurd h3 h
 ·exact h
theorem akH {nd:Int} {l:List Ro} {s:S} {r:List Q} {o p:ag} (h:right nd l s r o=true) (hp:p.Sublist o):right nd l s r p=true:=by
 obtain ⟨h1,h2,h3,h4⟩:=Ad h;simp only [right,dH,beq_iff_eq,gu,List.all_eq_true];exact ⟨h1,T.IW h2 hp,h3,λi hi=>h4 i (hp.subset hi)⟩
end K
end Go.Proofs.YtippdjmpkafifaaGreat
