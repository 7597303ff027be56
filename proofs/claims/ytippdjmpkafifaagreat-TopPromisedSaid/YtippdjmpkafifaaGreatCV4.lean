import Derived.Test.YtippdjmpkafifaaGreatCV3
import Derived.Test.YtippdjmpkafifaaGreatCV2
import Derived.Test.YtippdjmpkafifaaGreatCV1
import Derived.Deep.RegionHeld3
import Derived.BigRegion
import Derived.Laws.ResultCell
namespace Go.Proofs.YtippdjmpkafifaaGreat
open Go.RowKit
namespace G
theorem step_bd {k:Int} {out:List Int} {B:Nat} {x:Ro} (h:Bd out B) (h1:1≤x.mins) (h2:x.mins≤1000000):Bd (step k out x) (B + 1):=by
 unfold step
 split
 ·rename_i hc
  simp only [Bool.and_eq_true,decide_eq_true_eq] at hc
  have h0:=hc.2.1
  intro y hy
  rcases List.mem_or_eq_of_mem_set hy with hy | rfl
  ·have:=h y hy;omega
  ·cases e:out[x.fr.toNat]? with
   | none=>unfold at_ at h0;rw [e] at h0;simp at h0
   | some z =>
    have e2:at_ out x.fr=z:=by unfold at_;rw [e];rfl
    have:=h z (List.mem_of_getElem? e)
    rw [e2] at h0 ⊢
    omega
 ·exact h.mono (by omega)
theorem round_bd {k:Int}:∀ (l:List Ro) (out:List Int) (B:Nat),(∀ x ∈ l,1≤x.mins∧x.mins≤1000000∧0≤x.fr)→Bd out B→Bd (round k out l) (B + l.length):=by
 intro l
 induction l with
 | nil=>intro out B _ h;exact h
 | cons x l ih =>
  intro out B hl h
  have hx:=hl x List.mem_cons_self
  have:=ih _ _ (fun y hy=>hl y (List.mem_cons_of_mem _ hy)) (step_bd (k:=k) h hx.1 hx.2.1)
  rw [List.length_cons]
  exact this.mono (by omega)
theorem rounds_bd {k:Int} {l:List Ro} (hl:∀ x ∈ l,1≤x.mins∧x.mins≤1000000∧0≤x.fr):∀ (m:Nat) (out:List Int) (B:Nat),Bd out B→Bd (rounds k l m out) (B + m * l.length):=by
 intro m
 induction m with
 | zero=>intro out B h;exact h.mono (by omega)
 | succ m ih =>
  intro out B h
  have:=ih _ _ (round_bd (k:=k) l out B hl h)
  exact this.mono (by rw [Nat.add_mul];omega)
end G
namespace K
theorem times_bd (nd:Int) (l:List Ro) (s k:Int):∀ x ∈ times nd l s k,-1≤x∧x≤60000000000:=by
 unfold times
 split
 ·rename_i h
  simp only [Bool.and_eq_true,beq_iff_eq] at h
  obtain ⟨⟨n0,n1⟩,hl,hf,hm⟩:=netErr_ok h.1
  have h0:G.Bd ((List.replicate nd.toNat (-1)).set s.toNat 0) 0:=by
   intro x hx
   rcases List.mem_or_eq_of_mem_set hx with hx | rfl
   ·rw [List.mem_replicate] at hx;omega
   ·omega
  have h1:=G.rounds_bd (k:=k) (l:=l) (fun x hx=>⟨(hf x hx).2.2,hm x hx,(hf x hx).1.1⟩) nd.toNat _ _ h0
  intro x hx
  have:=h1 x hx
  have:nd.toNat * l.length≤100 * 600:=Nat.mul_le_mul (by omega) hl
  omega
 ·intro x hx;simp at hx
theorem times_len {nd:Int} {l:List Ro} {s k:Int} (h:netErr nd l=0) (hs:0≤s∧s < nd):(times nd l s k).length=nd.toNat:=by
 obtain ⟨m,rfl⟩:∃ m:Nat,nd=(m:Int):=⟨nd.toNat,by omega⟩
 have:=(times_dist (k:=k) h (T.btw_iff.2 ⟨hs.1,by omega⟩)).1
 rw [this,Int.toNat_natCast]
def way (nd:Int) (l:List Ro) (s k v:Int):Int:=G.at_ (times nd l s k) v
theorem way_bd (nd:Int) (l:List Ro) (s k v:Int):-1≤way nd l s k v∧way nd l s k v≤60000000000:=by
 unfold way G.at_
 cases h:(times nd l s k)[v.toNat]? with
 | none=>simp
 | some x=>exact times_bd nd l s k x (List.mem_of_getElem? h)
def req (r:List Q) (i:Int):Q:=(r[i.toNat]?).getD ⟨0,0,0,0,0,0,none,0,0,[]⟩
theorem req_get {r:List Q} {i:Nat} {q:Q} (h:r[i]? = some q):req r (i:Int)=q:=by unfold req;rw [Int.toNat_natCast,h];rfl
def reach (nd:Int) (l:List Ro) (s:S) (r:List Q) (served:List Int) (a t node:Int):Int × Int :=
 if way nd l a (T.weight s r served) node=-1 then (0,4) else if s.end_ < t + way nd l a (T.weight s r served) node then (0,18) else (t + way nd l a (T.weight s r served) node,0)
def leg (nd:Int) (l:List Ro) (s:S) (r:List Q) (served:List Int) (i:Int) (a t:Int):Int × Int :=
 if s.day < (req r i).frm∨(req r i).by_ < s.day then (0,17) else if T.fits s r (served ++ [i])=false then (0,20)
 else if (reach nd l s r served a t (req r i).node).2 ≠ 0 then (0,(reach nd l s r served a t (req r i).node).2)
 else if (H.fit (req r i).l (reach nd l s r served a t (req r i).node).1 (req r i).service).2=false then (0,19)
 else if s.end_ < (H.fit (req r i).l (reach nd l s r served a t (req r i).node).1 (req r i).service).1 + (req r i).service then (0,18)
 else ((H.fit (req r i).l (reach nd l s r served a t (req r i).node).1 (req r i).service).1,0)
structure Legs where
 times:List Int
 a:Int
 t:Int
 e:Int
def legs (nd:Int) (l:List Ro) (s:S) (r:List Q) (served:List Int) (a t:Int):List Int→Legs
 | []=>⟨[],a,t,0⟩
 | i :: rest =>
  if (leg nd l s r served i a t).2 ≠ 0 then ⟨[],a,t,(leg nd l s r served i a t).2⟩
  else
   let x:=legs nd l s r (served ++ [i]) (req r i).node ((leg nd l s r served i a t).1 + (req r i).service) rest
   ⟨(leg nd l s r served i a t).1 :: x.times,x.a,x.t,x.e⟩
structure Tr where
 stops:List Int
 times:List Int
 end_:Int
def Tr.zero:Tr:=⟨[],[],0⟩
def right (nd:Int) (l:List Ro) (s:S) (r:List Q) (order:List Int):Bool :=
 (netErr nd l == 0) && (T.load s r order && (decide (s.depot < nd) && order.all fun i=>decide ((req r i).node < nd)))
structure Res where
 tour:Tr
 e:Int
 n:Nat
def run (nd:Int) (l:List Ro) (s:S) (r:List Q) (order:List Int):Res :=
 if right nd l s r order=false then ⟨Tr.zero,1,0⟩
 else if (legs nd l s r [] s.depot s.start order).e ≠ 0 then ⟨Tr.zero,(legs nd l s r [] s.depot s.start order).e,(legs nd l s r [] s.depot s.start order).times.length⟩
 else if (reach nd l s r order (legs nd l s r [] s.depot s.start order).a (legs nd l s r [] s.depot s.start order).t s.depot).2 ≠ 0 then ⟨Tr.zero,(reach nd l s r order (legs nd l s r [] s.depot s.start order).a (legs nd l s r [] s.depot s.start order).t s.depot).2,order.length⟩
 else ⟨⟨order,(legs nd l s r [] s.depot s.start order).times,(reach nd l s r order (legs nd l s r [] s.depot s.start order).a (legs nd l s r [] s.depot s.start order).t s.depot).1⟩,0,order.length⟩
end K
theorem H.fitGo_ok {t s:Int}:∀ {l:List (Int × Int)},(H.fitGo t s l).2=true→∃ p ∈ l,t≤(H.fitGo t s l).1∧p.1≤(H.fitGo t s l).1∧(H.fitGo t s l).1 + s≤p.2:=by
 intro l
 induction l with
 | nil=>intro h;simp [H.fitGo] at h
 | cons p l ih =>
  intro h
  unfold H.fitGo at h ⊢
  split at h
  ·rename_i h1
   rw [if_pos h1]
   exact ⟨p,List.mem_cons_self,by simp only;omega,by simp only;omega,h1⟩
  ·rename_i h1
   rw [if_neg h1]
   obtain ⟨q,hq,h2⟩:=ih h
   exact ⟨q,List.mem_cons_of_mem _ hq,h2⟩
theorem H.fit_ok {l:List (Int × Int)} {t s:Int} (h:(H.fit l t s).2=true):H.right l=true∧(0≤t∧t≤1000000)∧(0≤s∧s≤1000000)∧t≤(H.fit l t s).1∧(H.fit l t s).1 + s≤1000000:=by
 unfold H.fit at h ⊢
 split at h
 ·rename_i h1
  rw [if_pos h1]
  simp only [Bool.and_eq_true] at h1
  obtain ⟨⟨h1,h2⟩,h3⟩:=h1
  obtain ⟨p,hp,g1,g2,g3⟩:=H.fitGo_ok h
  have:=(H.all_bd h1).2 p hp
  exact ⟨h1,H.minute_iff.1 h2,H.minute_iff.1 h3,g1,by omega⟩
 ·simp at h
namespace K
theorem reach_ok {nd:Int} {l:List Ro} {s:S} {r:List Q} {v:List Int} {a t node:Int} (h:(reach nd l s r v a t node).2=0) :
  way nd l a (T.weight s r v) node ≠ -1∧0≤way nd l a (T.weight s r v) node∧(reach nd l s r v a t node).1=t + way nd l a (T.weight s r v) node∧(reach nd l s r v a t node).1≤s.end_:=by
 have hb:=way_bd nd l a (T.weight s r v) node
 unfold reach at h ⊢
 split at h
 ·simp at h
 ·rename_i h1
  split at h
  ·simp at h
  ·rename_i h2
   rw [if_neg h1,if_neg h2]
   exact ⟨h1,by omega,rfl,by simp only;omega⟩
theorem leg_ok {nd:Int} {l:List Ro} {s:S} {r:List Q} {v:List Int} {i a t:Int} (h:(leg nd l s r v i a t).2=0) :
  (req r i).frm≤s.day∧s.day≤(req r i).by_∧T.fits s r (v ++ [i])=true∧(reach nd l s r v a t (req r i).node).2=0∧(H.fit (req r i).l (reach nd l s r v a t (req r i).node).1 (req r i).service).2=true ∧
   (leg nd l s r v i a t).1=(H.fit (req r i).l (reach nd l s r v a t (req r i).node).1 (req r i).service).1∧(leg nd l s r v i a t).1 + (req r i).service≤s.end_:=by
 unfold leg at h ⊢
 split at h
 ·simp at h
 ·rename_i h1
  split at h
  ·simp at h
  ·rename_i h2
   split at h
   ·rename_i h3;exact absurd h h3
   ·rename_i h3
    split at h
    ·simp at h
    ·rename_i h4
     split at h
     ·simp at h
     ·rename_i h5
      rw [if_neg h1,if_neg h2,if_neg h3,if_neg h4,if_neg h5]
      exact ⟨by omega,by omega,by simpa using h2,by simpa using h3,by simpa using h4,rfl,by simp only;omega⟩
end K
structure C where
 nd:Int
 A:Option Addr
 n:Nat
 c:Nat
 l:List Ro
 s:S
 B:Option Addr
 m:Nat
 d:Nat
 r:List Q
structure At (w:World) (x:C):Prop where
 net:Roads w x.A x.n x.l
 rooms:Ints w x.s.A x.s.n x.s.l
 reqs:Reqs w x.B x.m x.r
 b1:x.n≤1000000000
 b2:x.s.n≤1000000000
 b3:x.m≤1000000000
 b4:∀ q ∈ x.r,q.n≤1000000000
theorem At.below {w w':World} {x:C} (h:At w x) (hb:Below w.heap.size w w'):At w' x:=⟨Lst.below h.net hb,h.rooms.below hb,h.reqs.below hb,h.b1,h.b2,h.b3,h.b4⟩
def TSt (w:World) (b:Nat) (x:C) (V:Option Addr) (vn vc:Nat) (a t:Int):Prop :=
 w.heap[b]? = some (.cells #[.int .i64 x.nd,.slice x.A x.n x.c,.int .i64 x.s.day,.int .i64 x.s.depot,.int .i64 x.s.start,.int .i64 x.s.end_,.int .i64 x.s.tare,.slice x.s.A x.s.n x.s.c,.slice x.B x.m x.d,.slice V vn vc,.int .i64 a,.int .i64 t] 220 (0,0))
def TAt (w:World) (b:Nat) (x:C) (V:Option Addr) (vn vc:Nat) (a t:Int) (w':World):Prop :=
 Below w.heap.size w w'∧w'.cell? ⟨b,0,none⟩=some (.int .i64 x.nd)∧w'.cell? ⟨b,1,none⟩=some (.slice x.A x.n x.c)∧w'.cell? ⟨b,2,none⟩=some (.int .i64 x.s.day)∧w'.cell? ⟨b,3,none⟩=some (.int .i64 x.s.depot)∧w'.cell? ⟨b,4,none⟩=some (.int .i64 x.s.start) ∧
  w'.cell? ⟨b,5,none⟩=some (.int .i64 x.s.end_)∧w'.cell? ⟨b,6,none⟩=some (.int .i64 x.s.tare)∧w'.cell? ⟨b,7,none⟩=some (.slice x.s.A x.s.n x.s.c)∧w'.cell? ⟨b,8,none⟩=some (.slice x.B x.m x.d)∧w'.cell? ⟨b,9,none⟩=some (.slice V vn vc)∧w'.cell? ⟨b,10,none⟩=some (.int .i64 a)∧w'.cell? ⟨b,11,none⟩=some (.int .i64 t)
theorem TSt.below {w w':World} {b:Nat} {x:C} {V:Option Addr} {vn vc:Nat} {a t:Int} (h:TSt w b x V vn vc a t) (hb:Below w.heap.size w w'):TSt w' b x V vn vc a t:=blk_below hb h
theorem TSt.at_ {w:World} {b:Nat} {x:C} {V:Option Addr} {vn vc:Nat} {a t:Int} (h:TSt w b x V vn vc a t) {w':World} (hb:Below w.heap.size w w'):TAt w b x V vn vc a t w':=by
 have h:=h.below hb
 exact ⟨hb,blk_cell h 0 _ rfl,blk_cell h 1 _ rfl,blk_cell h 2 _ rfl,blk_cell h 3 _ rfl,blk_cell h 4 _ rfl,blk_cell h 5 _ rfl,blk_cell h 6 _ rfl,blk_cell h 7 _ rfl,blk_cell h 8 _ rfl,blk_cell h 9 _ rfl,blk_cell h 10 _ rfl,blk_cell h 11 _ rfl⟩
theorem ret_ii {a b:Int} {p:Int × Int} (h:p=(a,b)):Ending.returned (.tuple #[.int .i64 a,.int .i64 b])=.returned (.tuple #[.int .i64 p.1,.int .i64 p.2]):=by rw [h]
set_option maxRecDepth 100000 in
set_option maxHeartbeats 8000000 in
theorem reach_any (b:Nat) (x:C) (V:Option Addr) (vn vc:Nat) (v:List Int) (a t node:Int) (w:World) (hx:At w x) (hT:TSt w b x V vn vc a t) (hV:Ints w V vn v) (hvn:vn≤1000000000) (hne:K.netErr x.nd x.l=0) (ha:0≤a∧a < x.nd) (hno:0≤node∧node < x.nd) (ht:0≤t∧t≤1000000) :
  Calls Tryz.prog 188 #[.pointer (some ⟨b,0,none⟩),.int .i64 node] w fun e w'=>e=.returned (.tuple #[.int .i64 (K.reach x.nd x.l x.s x.r v a t node).1,.int .i64 (K.reach x.nd x.l x.s x.r v a t node).2])∧Below w.heap.size w w':=by
 have S0:=hT.at_ (Below.refl w.heap.size w)
 have hA:∀ w',TAt w b x V vn vc a t w'→At w' x:=fun w' h=>hx.below h.1
 have hW:∀ w',TAt w b x V vn vc a t w'→Ints w' V vn v:=fun w' h=>hV.below h.1
 have hTn:∀ w' w'',TAt w b x V vn vc a t w'→Below w'.heap.size w' w''→TAt w b x V vn vc a t w'':=fun w' w'' h hb=>hT.at_ (bel h.1 hb)
 have hTd:∀ w',TAt w b x V vn vc a t w'→TAt w b x V vn vc a t w'.drew:=fun w' h=>hT.at_ h.1.drew
 obtain ⟨b1,b2,b3,b4⟩:x.n≤1000000000∧x.s.n≤1000000000∧x.m≤1000000000∧∀ q ∈ x.r,q.n≤1000000000:=⟨hx.b1,hx.b2,hx.b3,hx.b4⟩
 go_enter Tryz.func188,Tryz.ntmps188
 go_wp2_with fail
 go_region_held3 (fun w'=>Below w.heap.size w w'∧w'.cell? ⟨b,0,none⟩=some (.int .i64 x.nd)∧w'.cell? ⟨b,1,none⟩=some (.slice x.A x.n x.c)∧w'.cell? ⟨b,2,none⟩=some (.int .i64 x.s.day)∧w'.cell? ⟨b,3,none⟩=some (.int .i64 x.s.depot)∧w'.cell? ⟨b,4,none⟩=some (.int .i64 x.s.start) ∧
  w'.cell? ⟨b,5,none⟩=some (.int .i64 x.s.end_)∧w'.cell? ⟨b,6,none⟩=some (.int .i64 x.s.tare)∧w'.cell? ⟨b,7,none⟩=some (.slice x.s.A x.s.n x.s.c)∧w'.cell? ⟨b,8,none⟩=some (.slice x.B x.m x.d)∧w'.cell? ⟨b,9,none⟩=some (.slice V vn vc)∧w'.cell? ⟨b,10,none⟩=some (.int .i64 a)∧w'.cell? ⟨b,11,none⟩=some (.int .i64 t))
  (first | assumption | exact S0 | exact hTd _ (by assumption) | exact hTn _ _ (by assumption) (by assumption))
  (first
   | (go_at_call 190;refine (weight_any x.s x.B x.m x.d x.r V vn vc v _ (hA _ ?_).rooms b2 (hA _ ?_).reqs b3 b4 (hW _ ?_) hvn).mono ?_;assumption;assumption;assumption;rintro e w' ⟨rfl,hb⟩)
   | (go_at_call 192;refine (times_any x.nd x.A x.n x.c x.l a (T.weight x.s x.r v) _ (hA _ ?_).net b1).mono ?_;assumption;rintro e w' ⟨⟨A1,n1,c1,rfl,hI⟩,hb⟩))
 have hH:TAt w b x V vn vc a t w':=by assumption
 have hlen:=K.times_len (k:=T.weight x.s x.r v) hne ha
 obtain ⟨kn,rfl⟩:∃ kn:Nat,node=(kn:Int):=⟨node.toNat,by omega⟩
 obtain ⟨ad,y,rfl,hy,cy⟩:=hI.at_ (k:=kn) (by rw [hI.1,hlen];omega)
 have hn1:(n1:Int)=x.nd:=by rw [hI.1,hlen];omega
 have hwy:K.way x.nd x.l a (T.weight x.s x.r v) kn=y:=by unfold K.way;rw [G.at_get hy]
 have hyb:=K.way_bd x.nd x.l a (T.weight x.s x.r v) kn
 rw [hwy] at hyb
 obtain ⟨hy0,hy1⟩:=hyb
 have HW:=Lib.hid hwy
 have k0:(0:Int)≤(kn:Int):=by omega
 have k1:(kn:Int) < (n1:Int):=by omega
 have hbb:=hH.1
 have hBel:Below w.heap.size w w':=hbb
 have hTw:=hT.below hbb
 have hwrap:IntKind.i64.wrap (t + y)=t + y:=IntWalk.i64_in _ (by omega)
 clear hH hlen hwy hy hI hn1 hA hW hTn hTd S0 hbb
 cases h1:(y == -1)
 ·have hyn:¬ y=-1:=by simpa using h1
  have HYN:=Lib.hid hyn
  clear hyn
  obtain ⟨-,p0,p1,p2,p3,p4,p5,p6,p7,p8,p9,p10,p11⟩:=hTw.at_ (Below.refl _ _)
  by_cases h2:x.s.end_ < t + y
  ·go_wp2_with fail
   go_quiet (fail)
   go_wp2_with fail
   go_ret2
   exact ⟨ret_ii (by unfold K.reach;rw [HW.out,if_neg HYN.out,if_pos h2]),below_drewN hBel _⟩
  ·go_wp2_with fail
   go_quiet (fail)
   obtain ⟨w2,hw2⟩:∃ w2:World,w2=w'.drewN nq:=⟨_,rfl⟩
   rw [←hw2]
   have b2':Below w'.heap.size w' w2:=by rw [hw2];exact below_drewN (Below.refl _ _) _
   clear hw2
   obtain ⟨-,q0,q1,q2,q3,q4,q5,q6,q7,q8,q9,q10,q11⟩:=(hTw.below b2').at_ (Below.refl _ _)
   have cy2:=(b2'.cell (cell_lt cy)).trans cy
   go_wp2_with fail
   go_quiet (fail)
   go_wp2_with fail
   go_ret2
   exact ⟨ret_ii (by unfold K.reach;rw [HW.out,if_neg HYN.out,if_neg (show ¬ x.s.end_ < t + y by omega)]),below_drewN (bel hBel b2') _⟩
 ·have hyn:y=-1:=by simpa using h1
  have HYN:=Lib.hid hyn
  clear hyn
  go_wp2_with fail
  go_ret2
  exact ⟨ret_ii (by unfold K.reach;rw [HW.out,if_pos HYN.out]),hBel⟩
theorem app_int {ops:Array Oper} {rest:List Oper} {o:Oper} {a:Act} {Q:Exit→Act→World→Prop} {w:World} (hgd:o.guard=none) (s x:Operand)
  (ho:o.op=.call { callee:=.builtin .append,args:=#[s,x],argTypes:=#[48,48] })
  (base:Nat) (v:Value) (n:Nat) (l:List Int) (hs:a.eval s=v) (hown:w.ownsRow base 3 1 v n (intCells l)) (g:Nat) (p:Int) (hx:a.eval x=.slice (some ⟨g,0,none⟩) 1 1)
  (hg:w.heap[g]? = some (.cells #[.int .i64 p] 3 (0,0))) (hn:n≤1000000) (hbase:base≤w.heap.size)
  (h:∀ v' w',w'.ownsRow base 3 1 v' (n + 1) (intCells (l ++ [p]))→w.grownBy w' v.ownBlock→(v'.ownBlock=v.ownBlock∨v'.ownBlock=some w.heap.size)→wpList Tryz.prog ops Q rest (a.put o.dst v') w') :
  wpList Tryz.prog ops Q (o :: rest) a w:=by
 obtain ⟨i0,hi,hz0,hz1,hz2⟩:=info_parts Tryz.info3
 refine wpList_append_own_at w hgd s x 48 ho base 3 i0 (.int .i64 0) 1 8 Tryz.underlying48 hi hz0 hz1 hz2 rfl (by decide) v n (intCells l) hs hown ⟨g,0,none⟩ 1 1 [.int .i64 p] hx rfl ?_ ?_ ?_ ?_ hbase ?_
 ·intro j u hu
  rw [add_zero_block]
  exact blk_cell hg j u (by simpa using hu)
 ·intro u hu
  simp at hu
  subst hu;rfl
 ·simp only [maxLen];omega
 ·omega
 ·intro v' w' h2 h3 _ h5
  exact h v' w' (by rw [intCells_app];exact h2) h3 h5
set_option maxHeartbeats 2000000 in
theorem clone_own (A:Option Addr) (n c:Nat) (l:List Int) (w:World) (hl:Ints w A n l) (hn:n≤1000000) :
  Calls Tryz.prog 109 #[.slice A n c] w fun e w'=>(∃ v,e=.returned v∧w'.ownsRow w.heap.size 3 1 v n (intCells l))∧Below w.heap.size w w':=by
 obtain ⟨i0,hi,hz0,hz1,hz2⟩:=info_parts Tryz.info3
 have heq:=eql48
 cases A with
 | none =>
  go_enter Tryz.func109,Tryz.ntmps109
  go_wp2_with fail
  go_ret
  have h0:n=0:=by
   cases n with
   | zero=>rfl
   | succ n=>obtain ⟨ad,e,_⟩:=hl.2.2 (by omega);cases e
  subst h0
  have hl0:l=[]:=List.length_eq_zero_iff.1 hl.1.symm
  subst hl0
  exact ⟨⟨_,rfl,World.ownsRow_nil _ _ _ _⟩,Below.refl _ _⟩
 | some ad =>
  have hlit:(w.alloc (.cells #[] 3)).ownsRow w.heap.size 3 1 (.slice (some ⟨w.heap.size,0,none⟩) 0 0) 0 []:=World.ownsRow_lit w #[] 0 (Nat.le_refl _) (by simp only [maxLen];omega) (by simp)
  have hb0:=(Below.refl w.heap.size w).alloc (Nat.le_refl _) (.cells #[] 3)
  go_enter Tryz.func109,Tryz.ntmps109
  go_wp2_with (at_builtin;refine wp_append_rd rfl (.tmp 5) (.tmp 6) 48 rfl w.heap.size 3 i0 (.int .i64 0) 1 8 Tryz.underlying48 hi hz0 hz1 hz2 rfl (by decide) _ 0 _ rfl hlit (some ad) n c (intCells l) rfl (hl.below hb0).2 (intCells_one l) (by simp only [maxLen];omega) (by omega) (by first | (simp;done) | (simp;omega)) ?_;intro v' w4 hown4 hgrow4 hat4)
  rw [Nat.zero_add] at hown4
  have hb4:Below w.heap.size w w4:=below_own hb0 (Nat.le_refl _) hgrow4 (fun g h=>(hlit.lt g h).1)
  clear hgrow4 hat4
  go_wp2_with fail
  go_ret
  exact ⟨⟨_,rfl,hown4⟩,hb4⟩
def QBlk (w:World) (b:Nat) (q:Q):Prop:=w.heap[b]? = some (.cells #[.int .i64 q.node,.int .i64 q.room,.int .i64 q.kilos,.int .i64 q.service,.int .i64 q.frm,.int .i64 q.by_,.slice q.A q.n q.c] 47 (0,0))
theorem QBlk.new (w:World) (q:Q):QBlk (w.alloc (.cells #[.int .i64 q.node,.int .i64 q.room,.int .i64 q.kilos,.int .i64 q.service,.int .i64 q.frm,.int .i64 q.by_,.slice q.A q.n q.c] 47)) w.heap.size q:=heap_alloc_new w _
theorem QBlk.below {w w':World} {b:Nat} {q:Q} (h:QBlk w b q) (hb:Below w.heap.size w w'):QBlk w' b q:=blk_below hb h
theorem QBlk.cells {w:World} {b:Nat} {q:Q} (h:QBlk w b q):w.cell? ⟨b,0,none⟩=some (.int .i64 q.node)∧w.cell? ⟨b,1,none⟩=some (.int .i64 q.room)∧w.cell? ⟨b,2,none⟩=some (.int .i64 q.kilos)∧w.cell? ⟨b,3,none⟩=some (.int .i64 q.service)∧w.cell? ⟨b,4,none⟩=some (.int .i64 q.frm)∧w.cell? ⟨b,5,none⟩=some (.int .i64 q.by_)∧w.cell? ⟨b,6,none⟩=some (.slice q.A q.n q.c) :=
 ⟨blk_cell h 0 _ rfl,blk_cell h 1 _ rfl,blk_cell h 2 _ rfl,blk_cell h 3 _ rfl,blk_cell h 4 _ rfl,blk_cell h 5 _ rfl,blk_cell h 6 _ rfl⟩
def Served (b:Nat) (x:C) (v:List Int) (i a t:Int) (w w':World) (e:Ending):Prop :=
 e=.returned (.tuple #[.int .i64 (K.leg x.nd x.l x.s x.r v i a t).1,.int .i64 (K.leg x.nd x.l x.s x.r v i a t).2])∧w.grownBy w' (some b) ∧
  ((K.leg x.nd x.l x.s x.r v i a t).2=0→∃ V' vc',TSt w' b x V' (v.length + 1) vc' (K.req x.r i).node ((K.leg x.nd x.l x.s x.r v i a t).1 + (K.req x.r i).service)∧Ints w' V' (v.length + 1) (v ++ [i])∧∀ ad,V'=some ad→w.heap.size≤ad.block)
theorem served_no {b:Nat} {x:C} {v:List Int} {i a t er:Int} {w w':World} (h:K.leg x.nd x.l x.s x.r v i a t=(0,er)) (h0:er ≠ 0) (hb:Below w.heap.size w w'):Served b x v i a t w w' (.returned (.tuple #[.int .i64 0,.int .i64 er])):=by
 unfold Served
 rw [h]
 exact ⟨rfl,grow_below (grow_refl w _) hb,fun h1=>absurd h1 h0⟩
theorem Ints.set {w:World} {A:Option Addr} {n:Nat} {l:List Int} (h:Ints w A n l) {g i:Nat} (u:Value) (hg:∀ ad,A=some ad→ad.block ≠ g):Ints (w.setCell ⟨g,i,none⟩ u) A n l :=
 ⟨h.1,h.2.1,fun h0=>by
  obtain ⟨ad,e,hc⟩:=h.2.2 h0
  refine ⟨ad,e,fun j y hy=>?_⟩
  exact (World.cell?_of_block (Below.heap_setCell w ⟨g,i,none⟩ u _ (by rw [add_block];exact hg ad e))).trans (hc j y hy)⟩
theorem served_yes {b:Nat} {x:C} {V A':Option Addr} {vn vc c':Nat} {v:List Int} {i:Nat} {q:Q} {a t fb:Int} {w w8:World} (h:K.leg x.nd x.l x.s x.r v i a t=(fb,0)) (hq:K.req x.r i=q) (hv:vn=v.length) (hT:TSt w8 b x V vn vc a t) (hb:Below w.heap.size w w8)
  (hI:Ints w8 A' (vn + 1) (v ++ [(i:Int)])) (hA0:∀ ad,A'=some ad→w.heap.size≤ad.block) (hlt:b < w.heap.size) :
  Served b x v i a t w (((w8.setCell ⟨b,9,none⟩ (.slice A' (vn + 1) c')).setCell ⟨b,10,none⟩ (.int .i64 q.node)).setCell ⟨b,11,none⟩ (.int .i64 (fb + q.service))).drew (.returned (.tuple #[.int .i64 fb,.int .i64 0])):=by
 unfold Served
 rw [h,hq,←hv]
 have hA:∀ ad,A'=some ad→ad.block ≠ b:=fun ad e=>by have:=hA0 ad e;omega
 refine ⟨rfl,?_,fun _=>⟨A',c',?_,?_,hA0⟩⟩
 ·exact grow_below (grow_set (grow_set (grow_set (grow_below (grow_refl w (some b)) hb) b _ _ rfl) b _ _ rfl) b _ _ rfl) (Below.refl _ _).drew
 ·exact blk_set (blk_set (blk_set hT 9 _) 10 _) 11 _
 ·exact (((hI.set _ hA).set _ hA).set _ hA).below (Below.refl _ _).drew
set_option maxRecDepth 100000 in
set_option maxHeartbeats 16000000 in
theorem serve_any (b:Nat) (x:C) (V:Option Addr) (vn vc:Nat) (v:List Int) (i:Nat) (q:Q) (a t:Int) (w:World) (hx:At w x) (hT:TSt w b x V vn vc a t) (hV:Ints w V vn v) (hvn:vn≤100000) (hne:K.netErr x.nd x.l=0) (ha:0≤a∧a < x.nd) (hq:x.r[i]? = some q) (hno:0≤q.node∧q.node < x.nd) (ht:0≤t∧t≤1000000)
  (hse:0≤q.service∧q.service≤1000000) (hen:x.s.end_≤1000000) :
  Calls Tryz.prog 187 #[.pointer (some ⟨b,0,none⟩),.int .i64 i] w fun e w'=>Served b x v i a t w w' e:=by
 have him:i < x.m:=by rw [hx.reqs.1];exact (List.getElem?_eq_some_iff.1 hq).1
 obtain ⟨-,p0,p1,p2,p3,p4,p5,p6,p7,p8,p9,p10,p11⟩:=hT.at_ (Below.refl _ _)
 obtain ⟨ad,q',hB,hgq,hwq,e0,e1,e2,e3,e4,e5,e6⟩:=hx.reqs.at_ him
 rw [hq] at hgq
 injection hgq with hgq
 subst hgq
 have HRQ:=Lib.hid (K.req_get hq)
 have hqn:=hx.b4 q (List.mem_of_getElem? hq)
 obtain ⟨w1,hw1⟩:∃ w1:World,w1=w.alloc (.cells #[.int .i64 q.node,.int .i64 q.room,.int .i64 q.kilos,.int .i64 q.service,.int .i64 q.frm,.int .i64 q.by_,.slice q.A q.n q.c] 47):=⟨_,rfl⟩
 have hQ1:QBlk w1 w.heap.size q:=by rw [hw1];exact QBlk.new w q
 have b1:Below w.heap.size w w1:=by rw [hw1];exact (Below.refl _ _).alloc (Nat.le_refl _) _
 have i0:(0:Int)≤(i:Int):=by omega
 have i1:(i:Int) < (x.m:Int):=by omega
 have hT1:=hT.below b1
 have p9a:(w.alloc (.cells #[.int .i64 q.node,.int .i64 q.room,.int .i64 q.kilos,.int .i64 q.service,.int .i64 q.frm,.int .i64 q.by_,.slice q.A q.n q.c] 47)).cell? ⟨b,9,none⟩=some (.slice V vn vc):=by rw [←hw1];exact blk_cell hT1 9 _ rfl
 rw [hB] at p8
 have HB:=Lib.hid hB
 clear hq hB
 go_enter Tryz.func187,Tryz.ntmps187
 go_wp2_with fail
 rw [←hw1]
 clear hw1 p0 p1 p2 p3 p4 p5 p6 p7 p8 p9 p10 p11 p9a e0 e1 e2 e3 e4 e5 e6 i0 i1
 refine (clone_own V vn vc v _ (hV.below b1) (by omega)).mono ?_
 rintro e w2 ⟨⟨v1,rfl,hown2⟩,b2⟩
 have hb2:=(b2.alloc b2.size (.cells #[.int .i64 i] 3))
 have hown2a:(w2.alloc (.cells #[.int .i64 i] 3)).ownsRow w1.heap.size 3 1 v1 vn (intCells v):=hown2.alloc _
 go_wp2_with (at_builtin;refine app_int rfl (.tmp 23) (.tmp 25) rfl w1.heap.size v1 vn v rfl hown2a w2.heap.size i rfl (heap_alloc_at _ _ _ rfl) (by omega) (by rw [World.size_alloc];have:=b2.size;omega) ?_;intro v' w3 hown3 hgrow3 hat3)
 have b3:Below w.heap.size w w3:=bel b1 (below_own hb2 (Nat.le_refl _) hgrow3 (fun g h=>(hown2a.lt g h).1))
 have b13:Below w1.heap.size w1 w3:=below_own hb2 (Nat.le_refl _) hgrow3 (fun g h=>(hown2a.lt g h).1)
 have hvl:vn=v.length:=hV.1
 obtain ⟨A',c',rfl,hI3⟩:=own_ints hown3 (by simp [hvl])
 have hAb:∀ ad,A'=some ad→w1.heap.size≤ad.block:=fun ad e=>(hown3.lt _ (by rw [e];rfl)).1
 have hQ3:=hQ1.below b13
 clear hown2 hown2a hgrow3 hat3 hb2 b2 hown3 hQ1 hT1 b13
 obtain ⟨-,p0,p1,p2,p3,p4,p5,p6,p7,p8,p9,p10,p11⟩:=(hT.below b3).at_ (Below.refl _ _)
 obtain ⟨q0,q1,q2,q3,q4,q5,q6⟩:=hQ3.cells
 have HVL:=Lib.hid hvl
 clear hvl
 cases d1:decide (x.s.day < q.frm)
 rotate_left
 ·have HX:=Lib.hid (show K.leg x.nd x.l x.s x.r v i a t=(0,17) by unfold K.leg;rw [HRQ.out,if_pos (.inl (by simpa using d1))])
  go_wp2_with fail
  go_quiet (fail)
  go_wp2_with fail
  go_ret2
  exact served_no HX.out (by decide) (below_drewN b3 _)
 cases d2:decide (q.by_ < x.s.day)
 rotate_left
 ·have HX:=Lib.hid (show K.leg x.nd x.l x.s x.r v i a t=(0,17) by unfold K.leg;rw [HRQ.out,if_pos (.inr (by simpa using d2))])
  go_wp2_with fail
  go_quiet (fail)
  go_wp2_with fail
  go_ret2
  exact served_no HX.out (by decide) (below_drewN b3 _)
 have HD:=Lib.hid (show ¬ (x.s.day < (K.req x.r i).frm∨(K.req x.r i).by_ < x.s.day) by rw [HRQ.out];simp at d1 d2;omega)
 go_wp2_with fail
 go_quiet (fail)
 obtain ⟨w4,hw4⟩:∃ w4:World,w4=w3.drewN nq:=⟨_,rfl⟩
 rw [←hw4]
 have b34:Below w3.heap.size w3 w4:=by rw [hw4];exact below_drewN (Below.refl _ _) _
 have b4:=bel b3 b34
 have hI4:=hI3.below b34
 have hQ4:=hQ3.below b34
 clear hw4 p0 p1 p2 p3 p4 p5 p6 p7 p8 p9 p10 p11 q0 q1 q2 q3 q4 q5 q6 d1 d2 hI3 hQ3
 obtain ⟨-,p0,p1,p2,p3,p4,p5,p6,p7,p8,p9,p10,p11⟩:=(hT.below b4).at_ (Below.refl _ _)
 rw [HB.out] at p8
 have hA4:=hx.below b4
 have f2:=Beh.cell p2
 have f3:=Beh.cell p3
 have f4:=Beh.cell p4
 have f5:=Beh.cell p5
 have f6:=Beh.cell p6
 have f7:=Beh.cell p7
 have f8:=Beh.cell p8
 have CF:=fun j:Beh w4=>fits_any x.s (some ad) x.m x.d x.r A' (vn + 1) c' (v ++ [(i:Int)]) j.val ((hA4.below j.property).rooms) hA4.b2 (by rw [←HB.out];exact (hA4.below j.property).reqs) hA4.b3 hA4.b4 (hI4.below j.property) (by omega)
 cases hf:T.fits x.s x.r (v ++ [(i:Int)])
 ·simp only [hf] at CF
  have HX:=Lib.hid (show K.leg x.nd x.l x.s x.r v i a t=(0,20) by unfold K.leg;rw [if_neg HD.out,if_pos hf])
  clear hf
  go_wp2_with fail
  refine reg_beh (by kernel_rfl) (by kernel_rfl) ?_
  repeat (go_big_quiet_step ((go_at_call 121;exact Beh.calls (CF _))))
  refine wpQuiet_nil ?_
  rintro w5 ⟨⟨_,b5⟩,rfl⟩
  go_wp2_with fail
  go_ret2
  exact served_no HX.out (by decide) (bel b4 b5)
 simp only [hf] at CF
 have HF:=Lib.hid (show ¬ (T.fits x.s x.r (v ++ [(i:Int)])=false) by rw [hf];simp)
 clear hf
 go_wp2_with fail
 refine reg_beh (by kernel_rfl) (by kernel_rfl) ?_
 repeat (go_big_quiet_step ((go_at_call 121;exact Beh.calls (CF _))))
 refine wpQuiet_nil ?_
 rintro w5 ⟨⟨_,b45⟩,rfl⟩
 have b5:=bel b4 b45
 have hI5:=hI4.below b45
 have hQ5:=hQ4.below b45
 clear p0 p1 p2 p3 p4 p5 p6 p7 p8 p9 p10 p11 f2 f3 f4 f5 f6 f7 f8 CF hI4 hQ4 hA4
 obtain ⟨q0,q1,q2,q3,q4,q5,q6⟩:=hQ5.cells
 go_wp2_with fail
 refine (reach_any b x V vn vc v a t q.node _ (hx.below b5) (hT.below b5) (hV.below b5) (by omega) hne ha hno ht).mono ?_
 rintro e w6 ⟨rfl,b56⟩
 have b6:=bel b5 b56
 have hI6:=hI5.below b56
 have hQ6:=hQ5.below b56
 clear q0 q1 q2 q3 q4 q5 q6 hI5 hQ5
 have HR:=Lib.hid (fun h=>K.reach_ok (nd:=x.nd) (l:=x.l) (s:=x.s) (r:=x.r) (v:=v) (a:=a) (t:=t) (node:=q.node) h)
 have HW0:=K.way_bd x.nd x.l a (T.weight x.s x.r v) q.node
 obtain ⟨t1,ht1⟩:∃ t1,t1=(K.reach x.nd x.l x.s x.r v a t q.node).1:=⟨_,rfl⟩
 obtain ⟨er,her⟩:∃ er,er=(K.reach x.nd x.l x.s x.r v a t q.node).2:=⟨_,rfl⟩
 rw [←ht1,←her]
 have HT1:=Lib.hid ht1
 have HER:=Lib.hid her
 clear ht1 her HW0
 cases h0:(er == 0)
 ·have h0':(er != 0)=true:=by simp [bne,h0]
  have hne0:er ≠ 0:=by simpa using h0
  have HX:=Lib.hid (show K.leg x.nd x.l x.s x.r v i a t=(0,er) by unfold K.leg;rw [if_neg HD.out,if_neg HF.out,HRQ.out,←HER.out,if_pos hne0])
  have HN0:=Lib.hid hne0
  clear h0 hne0
  go_wp2_with fail
  go_ret2
  exact served_no HX.out HN0.out b6
 have h0':(er != 0)=false:=by simp [bne,h0]
 have hee:er=0:=by simpa using h0
 have HE0:=Lib.hid (show ¬ ((K.reach x.nd x.l x.s x.r v a t q.node).2 ≠ 0) by rw [←HER.out,hee];simp)
 obtain ⟨hr1,hr2,hr3,hr4⟩:=HR.out (by rw [←HER.out];exact hee)
 rw [←HT1.out] at hr3 hr4
 subst hee
 have tb0:0≤t1:=by omega
 have tb1:t1≤1000000:=by omega
 clear hr1 hr2 hr3 HR h0
 obtain ⟨q0,q1,q2,q3,q4,q5,q6⟩:=hQ6.cells
 go_wp2_with fail
 refine (fit_any q.A q.n q.c q.l t1 q.service _ (hwq.below b6) hqn).mono ?_
 rintro e w7 ⟨rfl,b67⟩
 have b7:=bel b6 b67
 have hI7:=hI6.below b67
 have hQ7:=hQ6.below b67
 clear q0 q1 q2 q3 q4 q5 q6 hI6 hQ6
 have HFO:=Lib.hid (fun h=>H.fit_ok (l:=q.l) (t:=t1) (s:=q.service) h)
 obtain ⟨fb,hfb⟩:∃ fb,fb=(H.fit q.l t1 q.service).1:=⟨_,rfl⟩
 obtain ⟨ok,hok⟩:∃ ok,ok=(H.fit q.l t1 q.service).2:=⟨_,rfl⟩
 rw [←hfb,←hok]
 have HFB:=Lib.hid hfb
 have HOK:=Lib.hid hok
 clear hfb hok
 cases hko:ok
 ·have HX:=Lib.hid (show K.leg x.nd x.l x.s x.r v i a t=(0,19) by unfold K.leg;rw [if_neg HD.out,if_neg HF.out,HRQ.out,if_neg HE0.out,←HT1.out,if_pos (by rw [←HOK.out];exact hko)])
  clear hko
  go_wp2_with fail
  go_ret2
  exact served_no HX.out (by decide) b7
 have HK1:=Lib.hid (show ¬ ((H.fit q.l t1 q.service).2=false) by rw [←HOK.out,hko];simp)
 obtain ⟨-,-,-,hf1,hf2⟩:=HFO.out (by rw [←HOK.out];exact hko)
 rw [←HFB.out] at hf1 hf2
 subst hko
 have hf0:0≤fb:=by omega
 clear HFO
 obtain ⟨q0,q1,q2,q3,q4,q5,q6⟩:=hQ7.cells
 obtain ⟨-,p0,p1,p2,p3,p4,p5,p6,p7,p8,p9,p10,p11⟩:=(hT.below b7).at_ (Below.refl _ _)
 have hwrap:IntKind.i64.wrap (fb + q.service)=fb + q.service:=IntWalk.i64_in _ (by omega)
 by_cases h3:x.s.end_ < fb + q.service
 ·have HX:=Lib.hid (show K.leg x.nd x.l x.s x.r v i a t=(0,18) by unfold K.leg;rw [if_neg HD.out,if_neg HF.out,HRQ.out,if_neg HE0.out,←HT1.out,if_neg HK1.out,if_pos (by rw [←HFB.out];exact h3)])
  go_wp2_with fail
  go_quiet (fail)
  go_wp2_with fail
  go_ret2
  exact served_no HX.out (by decide) (below_drewN b7 _)
 have HX:=Lib.hid (show K.leg x.nd x.l x.s x.r v i a t=(fb,0) by unfold K.leg;rw [if_neg HD.out,if_neg HF.out,HRQ.out,if_neg HE0.out,←HT1.out,if_neg HK1.out,if_neg (by rw [←HFB.out];exact h3),←HFB.out])
 go_wp2_with fail
 go_quiet (fail)
 obtain ⟨w8,hw8⟩:∃ w8:World,w8=w7.drewN nq:=⟨_,rfl⟩
 rw [←hw8]
 have b78:Below w7.heap.size w7 w8:=by rw [hw8];exact below_drewN (Below.refl _ _) _
 have b8:=bel b7 b78
 have hI8:=hI7.below b78
 have hQ8:=hQ7.below b78
 clear hw8 p0 p1 p2 p3 p4 p5 p6 p7 p8 p9 p10 p11 q0 q1 q2 q3 q4 q5 q6 hI7 hQ7
 obtain ⟨q0,q1,q2,q3,q4,q5,q6⟩:=hQ8.cells
 have hT8:=hT.below b8
 have hlt8:b < w.heap.size:=lt_of_block hT
 obtain ⟨-,p0,p1,p2,p3,p4,p5,p6,p7,p8,p9,p10,p11⟩:=hT8.at_ (Below.refl _ _)
 have fz:∀ k,w8.frozen? ⟨b,k,none⟩=false:=fun k=>by
  have h9:w8.heap[b]? = some (.cells _ 220 (0,0)):=hT8
  simp [World.frozen?,h9]
 have fz9:=fz 9
 have fz10:=fz 10
 have fz11:=fz 11
 clear fz
 go_wp2_with fail
 go_region
 all_goals go_wp2_with fail
 all_goals
  go_ret2
  exact served_yes HX.out HRQ.out HVL.out hT8 b8 hI8 (fun ad e=>by have:=hAb ad e;have:=b1.size;omega) hlt8
theorem T.sum_pos {l:List Int} (h:∀ x ∈ l,0≤x):0≤T.sum l:=by
 induction l with
 | nil=>simp [T.sum]
 | cons x l ih =>
  have h1:=h x List.mem_cons_self
  have h2:=ih (fun y hy=>h y (List.mem_cons_of_mem _ hy))
  simp only [T.sum];omega
theorem T.weight_no {s:S} {r:List Q} {l:List Int} (h:T.load s r l=false):T.weight s r l=-1:=by simp [T.weight,h]
theorem T.weight_yes {s:S} {r:List Q} {l:List Int} (h:T.load s r l=true):0≤T.weight s r l:=by
 obtain ⟨hc,_,hr⟩:=T.load_parts h
 have h1:=(T.check_rooms hc).2.1
 have h2:0≤T.sum (T.loads r l):=T.sum_pos (fun x hx=>by
  obtain ⟨k,hk⟩:=List.mem_iff_getElem?.1 hx
  exact (T.loads_bound hr hk).1)
 simp only [T.weight,h,if_true]
 omega
theorem Shf.cells {w:World} {b:Nat} {s:S} (h:Shf w b s):w.cell? ⟨b,0,none⟩=some (.int .i64 s.day)∧w.cell? ⟨b,1,none⟩=some (.int .i64 s.depot)∧w.cell? ⟨b,2,none⟩=some (.int .i64 s.start)∧w.cell? ⟨b,3,none⟩=some (.int .i64 s.end_)∧w.cell? ⟨b,4,none⟩=some (.int .i64 s.tare)∧w.cell? ⟨b,5,none⟩=some (.slice s.A s.n s.c) :=
 ⟨blk_cell h 0 _ rfl,blk_cell h 1 _ rfl,blk_cell h 2 _ rfl,blk_cell h 3 _ rfl,blk_cell h 4 _ rfl,blk_cell h 5 _ rfl⟩
theorem K.all_drop {nd:Int} {r:List Q} {l:List Int} {k:Nat} {x:Int} (h:l[k]? = some x):(l.drop k).all (fun i=>decide ((K.req r i).node < nd))=(decide ((K.req r x).node < nd) && (l.drop (k + 1)).all fun i=>decide ((K.req r i).node < nd)):=drop_all h
set_option maxRecDepth 100000 in
set_option maxHeartbeats 8000000 in
theorem right_any (x:C) (V:Option Addr) (vn vc:Nat) (v:List Int) (w:World) (hx:At w x) (hV:Ints w V vn v) (hvn:vn≤1000000000) :
  Calls Tryz.prog 186 #[.agg #[.int .i64 x.nd,.slice x.A x.n x.c],.agg #[.int .i64 x.s.day,.int .i64 x.s.depot,.int .i64 x.s.start,.int .i64 x.s.end_,.int .i64 x.s.tare,.slice x.s.A x.s.n x.s.c],.slice x.B x.m x.d,.slice V vn vc] w fun e w'=>e=.returned (.bool (K.right x.nd x.l x.s x.r v))∧Below w.heap.size w w':=by
 have b0:=((Below.refl w.heap.size w).alloc (Nat.le_refl _) (.cells #[.int .i64 x.nd,.slice x.A x.n x.c] 24)).alloc (by rw [World.size_alloc];omega) (.cells #[.int .i64 x.s.day,.int .i64 x.s.depot,.int .i64 x.s.start,.int .i64 x.s.end_,.int .i64 x.s.tare,.slice x.s.A x.s.n x.s.c] 63)
 have SZ:=World.size_alloc w (.cells #[.int .i64 x.nd,.slice x.A x.n x.c] 24)
 have hP:=(Net.new w x.nd x.A x.n x.c).below ((Below.refl _ _).alloc (Nat.le_refl _) (.cells #[.int .i64 x.s.day,.int .i64 x.s.depot,.int .i64 x.s.start,.int .i64 x.s.end_,.int .i64 x.s.tare,.slice x.s.A x.s.n x.s.c] 63))
 have hS:=Shf.new (w.alloc (.cells #[.int .i64 x.nd,.slice x.A x.n x.c] 24)) x.s
 rw [SZ] at hS
 have p0:=hP.c0
 have p1:=hP.c1
 go_enter Tryz.func186,Tryz.ntmps186
 go_wp2_with fail
 obtain ⟨w0,hw0⟩:∃ w0:World,w0=(w.alloc (.cells #[.int .i64 x.nd,.slice x.A x.n x.c] 24)).alloc (.cells #[.int .i64 x.s.day,.int .i64 x.s.depot,.int .i64 x.s.start,.int .i64 x.s.end_,.int .i64 x.s.tare,.slice x.s.A x.s.n x.s.c] 63):=⟨_,rfl⟩
 rw [←hw0] at b0 hP hS ⊢
 clear hw0 p0 p1 SZ
 refine (netcheck_any x.nd x.A x.n x.c x.l _ (Lst.below hx.net b0) hx.b1).mono ?_
 rintro e w1 ⟨rfl,b1⟩
 have hP:=hP.below b1
 have hS:=hS.below b1
 have hb:=bel b0 b1
 clear b0 b1
 have p0:=hP.c0
 have p1:=hP.c1
 obtain ⟨s0,s1,s2,s3,s4,s5⟩:=hS.cells
 cases h1:(K.netErr x.nd x.l == 0)
 ·have HX:=Lib.hid (show K.right x.nd x.l x.s x.r v=false by simp [K.right,h1])
  have h1':(K.netErr x.nd x.l != 0)=true:=by simp [bne,h1]
  clear h1
  go_wp2_with fail
  go_ret
  exact ⟨ret_b HX.out.symm,hb⟩
 have h1':(K.netErr x.nd x.l != 0)=false:=by simp [bne,h1]
 have HE:=Lib.hid h1
 clear h1
 go_wp2_with fail
 refine (weight_any x.s x.B x.m x.d x.r V vn vc v _ (hx.below hb).rooms hx.b2 (hx.below hb).reqs hx.b3 hx.b4 (hV.below hb) hvn).mono ?_
 rintro e w2 ⟨rfl,b2⟩
 have hP:=hP.below b2
 have hS:=hS.below b2
 have hb:=bel hb b2
 clear b2 p0 p1 s0 s1 s2 s3 s4 s5
 have p0:=hP.c0
 have p1:=hP.c1
 obtain ⟨s0,s1,s2,s3,s4,s5⟩:=hS.cells
 cases h2:T.load x.s x.r v
 ·have HX:=Lib.hid (show K.right x.nd x.l x.s x.r v=false by simp [K.right,h2])
  have hw:(T.weight x.s x.r v == -1)=true:=by rw [T.weight_no h2];rfl
  clear h2
  go_wp2_with fail
  go_ret
  exact ⟨ret_b HX.out.symm,hb⟩
 have hw:(T.weight x.s x.r v == -1)=false:=by have:=T.weight_yes h2;simp;omega
 have HL:=Lib.hid h2
 clear h2
 by_cases h3:x.s.depot < x.nd
 ·have HX:=Lib.hid (show K.right x.nd x.l x.s x.r v=v.all fun i=>decide ((K.req x.r i).node < x.nd) by simp only [K.right];rw [HE.out,HL.out];simp [h3])
  have hset:=Lib.hid (T.isSetFrom_mem (T.load_parts HL.out).2.1)
  go_wp2_with fail
  go_loopw [30] (fun vi wr=>∃ k:Nat,vi=.int .i64 k∧k≤vn∧Hid (K.right x.nd x.l x.s x.r v=(v.drop k).all fun i=>decide ((K.req x.r i).node < x.nd))∧Below w2.heap.size w2 wr) (fun vi _=>vn - (intOf vi).toNat)
  case atStart=>exact ⟨0,rfl,by omega,HX.out,Below.refl _ _⟩
  case round =>
   obtain ⟨k,rfl,hk,hr,hbr⟩:=hrel
   by_cases hlt:k < vn
   ·obtain ⟨adv,i,rfl,hi,ci⟩:=(hV.below (bel hb hbr)).at_ hlt
    have HS:=Lib.hid (K.all_drop (nd:=x.nd) (r:=x.r) hi)
    obtain ⟨hi0,hi1⟩:=hset.out i (List.mem_of_getElem? hi)
    obtain ⟨j,rfl⟩:∃ j:Nat,i=(j:Int):=⟨i.toNat,by omega⟩
    have hjm:j < x.m:=by rw [hx.reqs.1];omega
    obtain ⟨ad,q,hB,hgq,hwq,e0,e1,e2,e3,e4,e5,e6⟩:=(hx.reqs.below (bel hb hbr)).at_ hjm
    have HRQ:=Lib.hid (K.req_get hgq)
    have hP3:=hP.below hbr
    have p0:=hP3.c0
    have j0:(0:Int)≤(j:Int):=by omega
    have j1:(j:Int) < (x.m:Int):=by omega
    clear hi hgq
    by_cases hn:q.node < x.nd
    ·have HN:=Lib.hid (show K.right x.nd x.l x.s x.r v=(v.drop (k + 1)).all fun i=>decide ((K.req x.r i).node < x.nd) by rw [hr.out,HS.out,HRQ.out];simp [hn])
     rw [hB]
     go_wp2_with fail
     go_quiet (fail)
     go_wp2_with fail
     go_roundw
     case rel=>exact ⟨k + 1,by go_num,by omega,HN.out,below_drewN hbr _⟩
     case measure=>simp [intOf];omega
    ·have HN:=Lib.hid (show K.right x.nd x.l x.s x.r v=false by rw [hr.out,HS.out,HRQ.out];simp [hn])
     rw [hB]
     go_wp2_with fail
     go_quiet (fail)
     go_wp2_with fail
     go_ret
     exact ⟨ret_b HN.out.symm,below_drewN (bel hb hbr) _⟩
   ·have HN:=Lib.hid (show K.right x.nd x.l x.s x.r v=true by rw [hr.out,List.drop_eq_nil_of_le (by rw [←hV.1];omega)];rfl)
    go_wp2_with fail
    go_ret
    exact ⟨ret_b HN.out.symm,bel hb hbr⟩
 ·have HX:=Lib.hid (show K.right x.nd x.l x.s x.r v=false by simp [K.right,h3])
  go_wp2_with fail
  go_ret
  exact ⟨ret_b HX.out.symm,hb⟩
theorem results_cell_tmp2 {fn:Func} {p u v:Tmp} {ty:TypeId} (h:fn.results=#[.cell p ty,.tmp u,.tmp v]) (tmps:Array Value) (P:Program) (w:World) :
  (results fn tmps).run P w =
   ((asAddr (tmps.getD p undef)).run P w).andThen fun a w₁=>((loadVar ty a).run P w₁).andThen fun x w₂=>.ok (.tuple #[x,tmps.getD u undef,tmps.getD v undef]) w₂:=by
 simp only [results,h]
 simp [Sem.run_bind,Result.andThen]
namespace K
theorem legs_ok {nd:Int} {l:List Ro} {s:S} {r:List Q} {o:List Int} {k:Nat} {i a t:Int} (hi:o[k]? = some i) (h:(leg nd l s r (o.take k) i a t).2=0) :
  legs nd l s r (o.take k) a t (o.drop k)=⟨(leg nd l s r (o.take k) i a t).1 :: (legs nd l s r (o.take (k + 1)) (req r i).node ((leg nd l s r (o.take k) i a t).1 + (req r i).service) (o.drop (k + 1))).times,
   (legs nd l s r (o.take (k + 1)) (req r i).node ((leg nd l s r (o.take k) i a t).1 + (req r i).service) (o.drop (k + 1))).a,(legs nd l s r (o.take (k + 1)) (req r i).node ((leg nd l s r (o.take k) i a t).1 + (req r i).service) (o.drop (k + 1))).t,
   (legs nd l s r (o.take (k + 1)) (req r i).node ((leg nd l s r (o.take k) i a t).1 + (req r i).service) (o.drop (k + 1))).e⟩:=by
 obtain ⟨hk,e⟩:=List.getElem?_eq_some_iff.1 hi
 rw [List.drop_eq_getElem_cons hk,e,take_snoc hi]
 conv=>lhs;unfold legs
 rw [if_neg (by rw [h];simp)]
theorem legs_no {nd:Int} {l:List Ro} {s:S} {r:List Q} {o:List Int} {k:Nat} {i a t:Int} (hi:o[k]? = some i) (h:(leg nd l s r (o.take k) i a t).2 ≠ 0) :
  legs nd l s r (o.take k) a t (o.drop k)=⟨[],a,t,(leg nd l s r (o.take k) i a t).2⟩:=by
 obtain ⟨hk,e⟩:=List.getElem?_eq_some_iff.1 hi
 rw [List.drop_eq_getElem_cons hk,e]
 conv=>lhs;unfold legs
 rw [if_pos h]
theorem right_parts {nd:Int} {l:List Ro} {s:S} {r:List Q} {o:List Int} (h:right nd l s r o=true):netErr nd l=0∧T.load s r o=true∧s.depot < nd∧∀ i ∈ o,(req r i).node < nd:=by
 simp only [right,Bool.and_eq_true,beq_iff_eq,decide_eq_true_eq,List.all_eq_true] at h
 exact ⟨h.1,h.2.1,h.2.2.1,h.2.2.2⟩
theorem check_parts {s:S} (h:T.check s=0):(0≤s.day∧s.day≤100000)∧(0≤s.depot∧s.depot≤99)∧0≤s.start∧s.start≤s.end_∧s.end_≤1000000:=by
 have h':=h
 unfold T.check at h
 split at h
 ·simp at h
 ·rename_i h1
  split at h
  ·simp at h
  ·rename_i h2
   have g1:=T.btw_iff.1 (by simpa using h1:T.btw s.day 0 100000=true)
   have g2:T.dated s=true:=by simpa using h2
   simp only [T.dated,Bool.and_eq_true,decide_eq_true_eq] at g2
   have g3:=T.btw_iff.1 g2.1
   omega
theorem right_req {q:Q} (h:T.right q=true):(0≤q.node∧q.node≤99)∧(0≤q.service∧q.service≤1000000)∧H.right q.l=true:=by
 simp only [T.right,Bool.and_eq_true] at h
 exact ⟨T.btw_iff.1 h.1,T.btw_iff.1 h.2.2.2.1,h.2.2.2.2.2.2⟩
end K
theorem own_keep {w w':World} {base:Nat} {e:TypeId} {size:Nat} {v:Value} {n:Nat} {xs:List Value} {r:Option Nat} (h:w.ownsRow base e size v n xs) (hg:w.grownBy w' r) (hne:∀ g,v.ownBlock=some g→some g ≠ r):w'.ownsRow base e size v n xs:=by
 obtain ⟨hl,h1 | ⟨g,cap,cur,hv,hbg,hh,r⟩⟩:=h
 ·exact ⟨hl,.inl h1⟩
 ·exact ⟨hl,.inr ⟨g,cap,cur,hv,hbg,grow_blk hg hh (hne g (by rw [hv];rfl)),r⟩⟩
theorem Ints.grown {w w':World} {A:Option Addr} {n:Nat} {l:List Int} {r:Option Nat} (h:Ints w A n l) (hg:w.grownBy w' r) (hA:∀ ad,A=some ad→some ad.block ≠ r):Ints w' A n l:=⟨h.1,h.2.grown hg hA⟩
def TrBlk (w:World) (g:Nat) (S T:Value) (en:Int):Prop:=w.heap[g]? = some (.cells #[.int .i64 0,S,T,.int .i64 en] 80 (0,0))
theorem TrBlk.below {w w':World} {g B:Nat} {S T:Value} {en:Int} (h:TrBlk w g S T en) (hb:Below B w w') (hg:g < B):TrBlk w' g S T en:=(hb.block g hg).trans h
theorem TrBlk.set {w:World} {g:Nat} {S T:Value} {en:Int} (h:TrBlk w g S T en) (S' T':Value) (en':Int):TrBlk ((((w.setCell ⟨g,0,none⟩ (.int .i64 0)).setCell ⟨g,1,none⟩ S').setCell ⟨g,2,none⟩ T').setCell ⟨g,3,none⟩ (.int .i64 en')) g S' T' en':=blk_set (blk_set (blk_set (blk_set h 0 _) 1 _) 2 _) 3 _
theorem TrBlk.cells {w:World} {g:Nat} {S T:Value} {en:Int} (h:TrBlk w g S T en):w.cell? ⟨g,0,none⟩=some (.int .i64 0)∧w.cell? ⟨g,1,none⟩=some S∧w.cell? ⟨g,2,none⟩=some T∧w.cell? ⟨g,3,none⟩=some (.int .i64 en) :=
 ⟨blk_cell h 0 _ rfl,blk_cell h 1 _ rfl,blk_cell h 2 _ rfl,blk_cell h 3 _ rfl⟩
theorem TrBlk.free {w:World} {g:Nat} {S T:Value} {en:Int} (h:TrBlk w g S T en) (i:Nat):w.frozen? ⟨g,i,none⟩=false:=by
 unfold TrBlk at h
 simp [World.frozen?,h]
def RetTour (w w':World) (x:K.Res) (e:Ending):Prop :=
 (∃ A n c A' n' c',e=.returned (.tuple #[.agg #[.int .i64 0,.slice A n c,.slice A' n' c',.int .i64 x.tour.end_],.int .i64 x.e,.int .i64 x.n])∧Ints w' A n x.tour.stops∧Ints w' A' n' x.tour.times∧(∀ ad,A=some ad→w.heap.size≤ad.block)∧∀ ad,A'=some ad→w.heap.size≤ad.block)∧Below w.heap.size w w'
theorem retTour_zero {w w':World} {er:Int} {n:Nat} {y:K.Res} (h:y=⟨K.Tr.zero,er,n⟩) (hb:Below w.heap.size w w'):RetTour w w' y (.returned (.tuple #[.agg #[.int .i64 0,.slice none 0 0,.slice none 0 0,.int .i64 0],.int .i64 er,.int .i64 n])):=by
 subst h
 exact ⟨⟨none,0,0,none,0,0,rfl,ints_nil _,ints_nil _,fun ad e=>(nomatch e),fun ad e=>(nomatch e)⟩,hb⟩
structure RRel (x:C) (o:List Int) (w4:World) (k:Nat) (tv:Value) (V:Option Addr) (vc:Nat) (a t:Int) (ts:List Int) (wr:World):Prop where
 legs:K.legs x.nd x.l x.s x.r [] x.s.depot x.s.start o=⟨ts ++ (K.legs x.nd x.l x.s x.r (o.take k) a t (o.drop k)).times,(K.legs x.nd x.l x.s x.r (o.take k) a t (o.drop k)).a,(K.legs x.nd x.l x.s x.r (o.take k) a t (o.drop k)).t,(K.legs x.nd x.l x.s x.r (o.take k) a t (o.drop k)).e⟩
 len:ts.length=k
 st:TSt wr w4.heap.size x V k vc a t
 ints:Ints wr V k (o.take k)
 own:wr.ownsRow (w4.heap.size + 1) 3 1 tv k (intCells ts)
 apart:∀ ad,V=some ad→some ad.block ≠ tv.ownBlock
 a0:0≤a∧a < x.nd
 t0:0≤t∧t≤1000000
 bw:Below w4.heap.size w4 wr
theorem RRel.served {x:C} {o:List Int} {w4 wr w5 w6:World} {k:Nat} {tv tv':Value} {V V2:Option Addr} {vc vc2:Nat} {a t i:Int} {ts:List Int} (h:RRel x o w4 k tv V vc a t ts wr) (hi:o[k]? = some i) (hl:(K.leg x.nd x.l x.s x.r (o.take k) i a t).2=0) (hg:wr.grownBy w5 (some w4.heap.size))
  (hT:TSt w5 w4.heap.size x V2 (k + 1) vc2 (K.req x.r i).node ((K.leg x.nd x.l x.s x.r (o.take k) i a t).1 + (K.req x.r i).service)) (hI:Ints w5 V2 (k + 1) (o.take k ++ [i])) (hA:∀ ad,V2=some ad→wr.heap.size≤ad.block)
  (hown:w6.ownsRow (w4.heap.size + 1) 3 1 tv' (k + 1) (intCells (ts ++ [(K.leg x.nd x.l x.s x.r (o.take k) i a t).1]))) (hgrow:(w5.alloc (.cells #[.int .i64 (K.leg x.nd x.l x.s x.r (o.take k) i a t).1] 3)).grownBy w6 tv.ownBlock) (hat:tv'.ownBlock=tv.ownBlock∨tv'.ownBlock=some (w5.alloc (.cells #[.int .i64 (K.leg x.nd x.l x.s x.r (o.take k) i a t).1] 3)).heap.size)
  (hno:0≤(K.req x.r i).node∧(K.req x.r i).node < x.nd) (hse:0≤(K.req x.r i).service):RRel x o w4 (k + 1) tv' V2 vc2 (K.req x.r i).node ((K.leg x.nd x.l x.s x.r (o.take k) i a t).1 + (K.req x.r i).service) (ts ++ [(K.leg x.nd x.l x.s x.r (o.take k) i a t).1]) w6:=by
 have hlt:∀ g,tv.ownBlock=some g→w4.heap.size + 1≤g∧g < wr.heap.size:=fun g e=>h.own.lt g e
 have hs5:=hg.size
 have hs6:=hgrow.size
 rw [World.size_alloc] at hs6
 have ba:Below w5.heap.size w5 (w5.alloc (.cells #[.int .i64 (K.leg x.nd x.l x.s x.r (o.take k) i a t).1] 3)):=(Below.refl _ _).alloc (Nat.le_refl _) _
 have hV:∀ ad,V2=some ad→some ad.block ≠ tv.ownBlock:=fun ad e e2=>by
  have:=hA ad e
  have:=(hlt _ e2.symm).2
  omega
 obtain ⟨-,-,-,l4,l5,l6,l7⟩:=K.leg_ok hl
 obtain ⟨-,r2,r3,-⟩:=K.reach_ok l4
 obtain ⟨-,-,-,f1,f2⟩:=H.fit_ok l5
 refine ⟨?_,by rw [List.length_append,h.len];rfl,grow_blk hgrow (hT.below ba) (fun e=>by have:=(hlt _ e.symm).1;omega),?_,hown,?_,hno,?_,?_⟩
 ·rw [h.legs,K.legs_ok hi hl,List.append_assoc];rfl
 ·rw [take_snoc hi];exact (hI.below ba).grown hgrow hV
 ·intro ad e
  rcases hat with hat | hat
  ·rw [hat];exact hV ad e
  ·rw [hat,World.size_alloc]
   intro e2
   injection e2 with e2
   obtain ⟨ad2,e3,c0⟩:=(hI.2.2 (by omega))
   rw [e] at e3
   injection e3 with e3
   subst e3
   have h0:(intCells (o.take k ++ [i]))[0]? = some ((intCells (o.take k ++ [i]))[0]'(by simp [intCells])):=List.getElem?_eq_getElem _
   have h1:=cell_lt (c0 0 _ h0)
   rw [add_block] at h1
   omega
 ·have:=h.t0
  rw [l6] at l7 ⊢
  omega
 ·have b5:Below w4.heap.size w4 w5:=below_own2 h.bw hg (fun g e=>by injection e with e;omega)
  have b6:Below w4.heap.size w4 (w5.alloc (.cells #[.int .i64 (K.leg x.nd x.l x.s x.r (o.take k) i a t).1] 3)):=bel b5 ba
  exact below_own2 b6 hgrow (fun g e=>by have:=(hlt _ e).1;omega)
theorem K.run_legs {nd:Int} {l:List Ro} {s:S} {r:List Q} {o:List Int} (hr:K.right nd l s r o=true) {y:K.Legs} (h:K.legs nd l s r [] s.depot s.start o=y) :
  K.run nd l s r o=if y.e ≠ 0 then ⟨K.Tr.zero,y.e,y.times.length⟩ else if (K.reach nd l s r o y.a y.t s.depot).2 ≠ 0 then ⟨K.Tr.zero,(K.reach nd l s r o y.a y.t s.depot).2,o.length⟩ else ⟨⟨o,y.times,(K.reach nd l s r o y.a y.t s.depot).1⟩,0,o.length⟩:=by
 unfold K.run
 rw [h,hr]
 simp
theorem retTour_mk {w w5 w':World} {g:Nat} {A A':Option Addr} {n c n' c':Nat} {o ts:List Int} {en er m:Int} {y:K.Res} (h:y=⟨⟨o,ts,en⟩,0,o.length⟩) (hr:er=0) (hm:m=o.length) (hb:Below w.heap.size w w5) (hA:Ints w5 A n o) (hT:Ints w5 A' n' ts) (hgA0:∀ ad,A=some ad→g < ad.block) (hgT0:∀ ad,A'=some ad→g < ad.block) (hg:w.heap.size≤g)
  (hw:w'=((((w5.setCell ⟨g,0,none⟩ (.int .i64 0)).setCell ⟨g,1,none⟩ (.slice A n c)).setCell ⟨g,2,none⟩ (.slice A' n' c')).setCell ⟨g,3,none⟩ (.int .i64 en))) :
  RetTour w w' y (.returned (.tuple #[.agg #[.int .i64 0,.slice A n c,.slice A' n' c',.int .i64 en],.int .i64 er,.int .i64 m])):=by
 subst h hr hm hw
 have hgA:∀ ad,A=some ad→ad.block ≠ g:=fun ad e=>by have:=hgA0 ad e;omega
 have hgT:∀ ad,A'=some ad→ad.block ≠ g:=fun ad e=>by have:=hgT0 ad e;omega
 exact ⟨⟨A,n,c,A',n',c',rfl,(((hA.set _ hgA).set _ hgA).set _ hgA).set _ hgA,(((hT.set _ hgT).set _ hgT).set _ hgT).set _ hgT,fun ad e=>by have:=hgA0 ad e;omega,fun ad e=>by have:=hgT0 ad e;omega⟩,(((hb.setCell hg _).setCell hg _).setCell hg _).setCell hg _⟩
theorem below_set4 {w w5:World} {g:Nat} (hb:Below w.heap.size w w5) (hg:w.heap.size≤g) (a b c d:Value):Below w.heap.size w ((((w5.setCell ⟨g,0,none⟩ a).setCell ⟨g,1,none⟩ b).setCell ⟨g,2,none⟩ c).setCell ⟨g,3,none⟩ d):=(((hb.setCell hg _).setCell hg _).setCell hg _).setCell hg _
set_option maxRecDepth 100000 in
set_option maxHeartbeats 16000000 in
theorem run_any (x:C) (V:Option Addr) (vn vc:Nat) (o:List Int) (w:World) (hx:At w x) (hV:Ints w V vn o) (hvn:vn≤100000) :
  Calls Tryz.prog 134 #[.agg #[.int .i64 x.nd,.slice x.A x.n x.c],.agg #[.int .i64 x.s.day,.int .i64 x.s.depot,.int .i64 x.s.start,.int .i64 x.s.end_,.int .i64 x.s.tare,.slice x.s.A x.s.n x.s.c],.slice x.B x.m x.d,.slice V vn vc] w fun e w'=>RetTour w w' (K.run x.nd x.l x.s x.r o) e:=by
 obtain ⟨w1,hw1⟩:∃ w1:World,w1=w.alloc (.cells #[.int .i64 x.nd,.slice x.A x.n x.c] 24):=⟨_,rfl⟩
 obtain ⟨w2,hw2⟩:∃ w2:World,w2=w1.alloc (.cells #[.int .i64 x.s.day,.int .i64 x.s.depot,.int .i64 x.s.start,.int .i64 x.s.end_,.int .i64 x.s.tare,.slice x.s.A x.s.n x.s.c] 63):=⟨_,rfl⟩
 obtain ⟨w3,hw3⟩:∃ w3:World,w3=w2.alloc (.cells #[.int .i64 0,.slice none 0 0,.slice none 0 0,.int .i64 0] 80):=⟨_,rfl⟩
 have z1:w1.heap.size=w.heap.size + 1:=by rw [hw1];exact World.size_alloc _ _
 have z2:w2.heap.size=w.heap.size + 1 + 1:=by rw [hw2,World.size_alloc,z1]
 have z3:w3.heap.size=w.heap.size + 1 + 1 + 1:=by rw [hw3,World.size_alloc,z2]
 have b01:Below w.heap.size w w1:=by rw [hw1];exact (Below.refl _ _).alloc (Nat.le_refl _) _
 have b12:Below w1.heap.size w1 w2:=by rw [hw2];exact (Below.refl _ _).alloc (Nat.le_refl _) _
 have b23:Below w2.heap.size w2 w3:=by rw [hw3];exact (Below.refl _ _).alloc (Nat.le_refl _) _
 have hP:Net w3 w.heap.size x.nd x.A x.n x.c:=by
  have h1:Net w1 w.heap.size x.nd x.A x.n x.c:=by rw [hw1];exact Net.new _ _ _ _ _
  exact (h1.below b12).below b23
 have hS:Shf w3 (w.heap.size + 1) x.s:=by
  have h1:Shf w2 (w.heap.size + 1) x.s:=by rw [←z1,hw2];exact Shf.new _ _
  exact h1.below b23
 have hR:TrBlk w3 (w.heap.size + 1 + 1) (.slice none 0 0) (.slice none 0 0) 0:=by rw [←z2,hw3];exact heap_alloc_new _ _
 have b3:=bel (bel b01 b12) b23
 have p0:=hP.c0
 have p1:=hP.c1
 obtain ⟨s0,s1,s2,s3,s4,s5⟩:=hS.cells
 have Z3:=Lib.hid z3
 rw [hw3,hw2,hw1] at p0 p1 s0 s1 s2 s3 s4 s5
 go_enter Tryz.func134,Tryz.ntmps134
 go_wp2_with fail
 rw [←hw1,←hw2,←hw3]
 clear hw1 hw2 hw3 z1 z2 z3 b01 b12 b23 p0 p1 s0 s1 s2 s3 s4 s5
 refine (right_any x V vn vc o _ (hx.below b3) (hV.below b3) (by omega)).mono ?_
 rintro e w4 ⟨rfl,b34⟩
 have hP:=hP.below b34
 have hS:=hS.below b34
 have hR:=hR.below b34 (by rw [Z3.out];omega)
 have b4:=bel b3 b34
 clear b3
 have p0:=hP.c0
 have p1:=hP.c1
 obtain ⟨s0,s1,s2,s3,s4,s5⟩:=hS.cells
 obtain ⟨r0,r1,r2,r3⟩:=hR.cells
 have f0:=hR.free 0
 have f1:=hR.free 1
 have f2:=hR.free 2
 have f3:=hR.free 3
 cases hr:K.right x.nd x.l x.s x.r o
 ·have HX:=Lib.hid (show K.run x.nd x.l x.s x.r o=⟨K.Tr.zero,1,0⟩ by unfold K.run;rw [if_pos hr])
  clear hr
  go_wp2_with fail
  refine bodyPost_ret_by (v:=.tuple #[.agg #[.int .i64 0,.slice none 0 0,.slice none 0 0,.int .i64 0],.int .i64 1,.int .i64 0]) ?_ rfl ?_
  ·obtain ⟨z0,z1,z2,z3⟩:=(hR.set (.slice none 0 0) (.slice none 0 0) 0).cells
   rw [results_cell_tmp2 rfl]
   simp [go_sem,z0,z1,z2,z3]
  ·exact retTour_zero HX.out (below_set4 b4 (by omega) _ _ _ _)
 ·obtain ⟨hne,hld,hdp,hno⟩:=K.right_parts hr
  obtain ⟨hck,hset,hall⟩:=T.load_parts hld
  obtain ⟨-,⟨d0,d1⟩,st0,st1,en1⟩:=K.check_parts hck
  have HSET:=Lib.hid (T.isSetFrom_mem hset)
  have HALL:=Lib.hid hall
  have HNO:=Lib.hid hno
  have HRT:=Lib.hid hr
  have HNE:=Lib.hid hne
  clear hr hne hld hset hall hck hno
  have hT0:TSt (w4.alloc (.cells #[.int .i64 x.nd,.slice x.A x.n x.c,.int .i64 x.s.day,.int .i64 x.s.depot,.int .i64 x.s.start,.int .i64 x.s.end_,.int .i64 x.s.tare,.slice x.s.A x.s.n x.s.c,.slice x.B x.m x.d,.slice none 0 0,.int .i64 x.s.depot,.int .i64 x.s.start] 220)) w4.heap.size x none 0 0 x.s.depot x.s.start:=heap_alloc_new w4 _
  have hrel0:RRel x o w4 0 (.slice none 0 0) none 0 x.s.depot x.s.start [] (w4.alloc (.cells #[.int .i64 x.nd,.slice x.A x.n x.c,.int .i64 x.s.day,.int .i64 x.s.depot,.int .i64 x.s.start,.int .i64 x.s.end_,.int .i64 x.s.tare,.slice x.s.A x.s.n x.s.c,.slice x.B x.m x.d,.slice none 0 0,.int .i64 x.s.depot,.int .i64 x.s.start] 220)) :=
   ⟨by simp,rfl,hT0,by rw [List.take_zero];exact ints_nil _,World.ownsRow_nil _ _ _ _,fun ad e=>(nomatch e),⟨d0,hdp⟩,⟨st0,by omega⟩,(Below.refl _ _).alloc (Nat.le_refl _) _⟩
  clear hT0
  have hrs:w.heap.size + 1 + 1 < w4.heap.size:=by have:=b34.size;have:=Z3.out;omega
  go_wp2_with fail
  go_loopw [12,37] (fun tv vi wr=>∃ (k:Nat) (V':Option Addr) (vc':Nat) (a t:Int) (ts:List Int),vi=.int .i64 k∧k≤vn∧RRel x o w4 k tv V' vc' a t ts wr) (fun _ vi _=>vn - (intOf vi).toNat)
  case atStart=>exact ⟨0,none,0,_,_,[],rfl,by omega,hrel0⟩
  case round =>
   clear hrel0 p0 p1 s0 s1 s2 s3 s4 s5 r0 r1 r2 r3 f0 f1 f2 f3
   obtain ⟨k,V',vc',a,t,ts,rfl,hk,hrr⟩:=hrel
   have hbr:=hrr.bw
   have hbw:=bel b4 hbr
   have hSr:=hS.below hbr
   obtain ⟨s0,s1,s2,s3,s4,s5⟩:=hSr.cells
   by_cases hlt:k < vn
   ·obtain ⟨adv,i,rfl,hi,ci⟩:=(hV.below hbw).at_ hlt
    have him:=List.mem_of_getElem? hi
    obtain ⟨hi0,hi1⟩:=HSET.out i him
    obtain ⟨j,rfl⟩:∃ j:Nat,i=(j:Int):=⟨i.toNat,by omega⟩
    obtain ⟨q,hq⟩:∃ q,x.r[j]? = some q:=⟨_,List.getElem?_eq_getElem (by omega)⟩
    obtain ⟨⟨n0,-⟩,⟨e0,e1⟩,-⟩:=K.right_req (HALL.out q (List.mem_of_getElem? hq))
    have hnq:=HNO.out _ him
    rw [K.req_get hq] at hnq
    have HRQ:=Lib.hid (K.req_get hq)
    have HI:=Lib.hid hi
    have HRR:=Lib.hid hrr
    have hst:=hrr.st
    have hint:=hrr.ints
    have ha0:=hrr.a0
    have ht0:=hrr.t0
    clear hi him hrr
    go_wp2_with fail
    refine (serve_any w4.heap.size x V' k vc' (o.take k) j q a t _ (hx.below hbw) hst hint (by omega) HNE.out ha0 hq ⟨n0,hnq⟩ ht0 ⟨e0,e1⟩ en1).mono ?_
    rintro e w5 ⟨rfl,hg,hok⟩
    have hb5:Below w4.heap.size w4 w5:=below_own2 hbr hg (fun g e=>by injection e with e;omega)
    have hb5w:=bel b4 hb5
    have hR5:=hR.below hb5 hrs
    obtain ⟨lb,hlb⟩:∃ lb,lb=(K.leg x.nd x.l x.s x.r (o.take k) j a t).1:=⟨_,rfl⟩
    obtain ⟨le,hle⟩:∃ le,le=(K.leg x.nd x.l x.s x.r (o.take k) j a t).2:=⟨_,rfl⟩
    rw [←hlb,←hle]
    have HLB:=Lib.hid hlb
    have HLE:=Lib.hid hle
    have HOK:=Lib.hid hok
    clear hlb hle hok hq hst hint
    cases h0:(le == 0)
    ·have h0':(le != 0)=true:=by simp [bne,h0]
     have hne0:le ≠ 0:=by simpa using h0
     have HX:=Lib.hid (show K.run x.nd x.l x.s x.r o=⟨K.Tr.zero,le,k⟩ by
      rw [K.run_legs HRT.out HRR.out.legs,K.legs_no HI.out (by rw [←HLE.out];exact hne0),←HLE.out,if_pos hne0]
      simp [HRR.out.len])
     obtain ⟨r0,r1,r2,r3⟩:=hR5.cells
     have f0:=hR5.free 0
     have f1:=hR5.free 1
     have f2:=hR5.free 2
     have f3:=hR5.free 3
     clear h0 hne0
     go_wp2_with fail
     refine bodyPost_ret_by (v:=.tuple #[.agg #[.int .i64 0,.slice none 0 0,.slice none 0 0,.int .i64 0],.int .i64 le,.int .i64 k]) ?_ rfl ?_
     ·obtain ⟨z0,z1,z2,z3⟩:=(hR5.set (.slice none 0 0) (.slice none 0 0) 0).cells
      rw [results_cell_tmp2 rfl]
      simp [go_sem,z0,z1,z2,z3]
     ·exact retTour_zero HX.out (below_set4 hb5w (by omega) _ _ _ _)
    ·have h0':(le != 0)=false:=by simp [bne,h0]
     have hee:le=0:=by simpa using h0
     have HZ:=Lib.hid (show (K.leg x.nd x.l x.s x.r (o.take k) j a t).2=0 by rw [←HLE.out];exact hee)
     subst hee
     have hown5:(w5.alloc (.cells #[.int .i64 lb] 3)).ownsRow (w4.heap.size + 1) 3 1 u12 k (intCells ts):=(own_keep HRR.out.own hg (fun g e e2=>by have:=(HRR.out.own.lt g e).1;injection e2 with e2;omega)).alloc _
     have hs5:=hg.size
     have hs4:=hbr.size
     have HG:=Lib.hid hg
     have hno5:0≤(K.req x.r j).node∧(K.req x.r j).node < x.nd:=by rw [HRQ.out];exact ⟨n0,hnq⟩
     have hse5:0≤(K.req x.r j).service:=by rw [HRQ.out];exact e0
     have HNO5:=Lib.hid hno5
     have HSE5:=Lib.hid hse5
     clear h0 hg hno5 hse5
     go_wp2_with (at_builtin;refine app_int rfl (.tmp 53) (.tmp 55) rfl (w4.heap.size + 1) u12 k ts rfl hown5 w5.heap.size lb rfl (heap_alloc_at _ _ _ rfl) (by omega) (by rw [World.size_alloc];omega) ?_;intro tv' w6 hown6 hgrow6 hat6)
     rw [HLB.out] at hown6 hgrow6 hat6
     obtain ⟨V2,vc2,hT2,hI2,hA2⟩:=HOK.out HZ.out
     rw [List.length_take,show min k o.length=k by have:=hV.1;omega] at hT2 hI2
     have hN:=Lib.hid (HRR.out.served HI.out HZ.out HG.out hT2 hI2 hA2 hown6 hgrow6 hat6 HNO5.out HSE5.out)
     clear hown6 hgrow6 hat6 hT2 hI2 hA2 hown5
     go_wp2_with fail
     go_roundw
     case rel=>exact ⟨k + 1,V2,vc2,_,_,_,by go_num,by omega,hN.out⟩
     case measure=>simp [intOf];omega
   ·have hkv:vn=k:=by omega
    subst hkv
    have hto:o.take vn=o:=List.take_of_length_le (by rw [←hV.1];omega)
    have hdo:o.drop vn=[]:=List.drop_eq_nil_of_le (by rw [←hV.1];omega)
    have hl0:=hrr.legs
    rw [hto,hdo] at hl0
    have hl1:K.legs x.nd x.l x.s x.r [] x.s.depot x.s.start o=⟨ts,a,t,0⟩:=by rw [hl0];simp [K.legs]
    have hRn:=K.run_legs HRT.out hl1
    simp only [ne_eq,not_true_eq_false,if_false] at hRn
    have HRN:=Lib.hid hRn
    have HRR:=Lib.hid hrr
    have hst:=hrr.st
    have hint:=hrr.ints
    rw [hto] at hint
    have ha0:=hrr.a0
    have ht0:=hrr.t0
    clear hrr hto hdo hl0 hl1 hRn
    go_wp2_with fail
    refine (reach_any w4.heap.size x V' vn vc' o a t x.s.depot _ (hx.below hbw) hst hint (by omega) HNE.out ha0 ⟨d0,hdp⟩ ht0).mono ?_
    rintro e w5 ⟨rfl,hb5⟩
    have hb5w:=bel hbw hb5
    have hR5:=hR.below (bel hbr hb5) hrs
    obtain ⟨ed,hed⟩:∃ ed,ed=(K.reach x.nd x.l x.s x.r o a t x.s.depot).1:=⟨_,rfl⟩
    obtain ⟨re,hre⟩:∃ re,re=(K.reach x.nd x.l x.s x.r o a t x.s.depot).2:=⟨_,rfl⟩
    rw [←hed,←hre]
    have HED:=Lib.hid hed
    have HRE:=Lib.hid hre
    have hown5:=own_below HRR.out.own hb5
    have hlen:=hV.1
    have HLN:=Lib.hid hlen
    clear hed hre hst hint hlen
    obtain ⟨r0,r1,r2,r3⟩:=hR5.cells
    have f0:=hR5.free 0
    have f1:=hR5.free 1
    have f2:=hR5.free 2
    have f3:=hR5.free 3
    cases h0:(re == 0)
    ·have h0':(re != 0)=true:=by simp [bne,h0]
     have hne0:re ≠ 0:=by simpa using h0
     have HX:=Lib.hid (show K.run x.nd x.l x.s x.r o=⟨K.Tr.zero,re,vn⟩ by
      rw [HRN.out,←HRE.out,if_pos hne0,←HLN.out])
     clear h0 hne0
     go_wp2_with fail
     refine bodyPost_ret_by (v:=.tuple #[.agg #[.int .i64 0,.slice none 0 0,.slice none 0 0,.int .i64 0],.int .i64 re,.int .i64 vn]) ?_ rfl ?_
     ·obtain ⟨z0,z1,z2,z3⟩:=(hR5.set (.slice none 0 0) (.slice none 0 0) 0).cells
      rw [results_cell_tmp2 rfl]
      simp [go_sem,z0,z1,z2,z3]
     ·exact retTour_zero HX.out (below_set4 hb5w (by omega) _ _ _ _)
    ·have h0':(re != 0)=false:=by simp [bne,h0]
     have hee:re=0:=by simpa using h0
     have HX:=Lib.hid (show K.run x.nd x.l x.s x.r o=⟨⟨o,ts,ed⟩,0,o.length⟩ by
      rw [HRN.out,←HRE.out,hee,HED.out];simp)
     subst hee
     clear h0 r0 r1 r2 r3 f0 f1 f2 f3
     go_wp2_with fail
     refine (clone_own V vn vc o _ (hV.below hb5w) (by omega)).mono ?_
     rintro e w6 ⟨⟨v6,rfl,hown6⟩,b56⟩
     obtain ⟨A6,c6,rfl,hI6⟩:=own_ints hown6 HLN.out
     have hA6:∀ ad,A6=some ad→w5.heap.size≤ad.block:=fun ad e=>(hown6.lt _ (by rw [e];rfl)).1
     have hown56:=own_below hown5 b56
     have HTL:=Lib.hid (show vn=ts.length from HRR.out.len.symm)
     obtain ⟨A7,c7,rfl,hI7⟩:=own_ints hown56 HTL.out
     have hA7:∀ ad,A7=some ad→w4.heap.size + 1≤ad.block:=fun ad e=>(hown56.lt _ (by rw [e];rfl)).1
     have hR6:=hR5.below b56 (by have:=hb5.size;have:=hbr.size;omega)
     obtain ⟨r0,r1,r2,r3⟩:=hR6.cells
     have f0:=hR6.free 0
     have f1:=hR6.free 1
     have f2:=hR6.free 2
     have f3:=hR6.free 3
     have hs5:w4.heap.size≤w5.heap.size:=by have:=hb5.size;have:=hbr.size;omega
     clear hown6 hown56 hown5
     go_wp2_with fail
     refine bodyPost_ret_by (v:=.tuple #[.agg #[.int .i64 0,.slice A6 vn c6,.slice A7 vn c7,.int .i64 ed],.int .i64 0,.int .i64 vn]) ?_ rfl ?_
     ·obtain ⟨z0,z1,z2,z3⟩:=(hR6.set (.slice A6 vn c6) (.slice A7 vn c7) ed).cells
      rw [results_cell_tmp2 rfl]
      simp [go_sem,z0,z1,z2,z3]
     ·exact retTour_mk HX.out rfl (by rw [HLN.out]) (bel hb5w b56) hI6 hI7 (fun ad e=>by have:=hA6 ad e;omega) (fun ad e=>by have:=hA7 ad e;omega) (by omega) rfl
set_option maxHeartbeats 2000000 in
theorem equal_any (A B:Option Addr) (n m c d:Nat) (la lb:List Int) (w:World) (hla:Ints w A n la) (hlb:Ints w B m lb) (hn:n≤1000000000) (hm:m≤1000000000) :
  Calls Tryz.prog 135 #[.slice A n c,.slice B m d] w fun e w'=>e=.returned (.bool (decide (la=lb)))∧Below w.heap.size w w':=by
 by_cases hnm:n=m
 ·obtain rfl:=hnm
  go_enter Tryz.func135,Tryz.ntmps135
  go_wp2_with fail
  go_loopw [13] (fun vi wr=>∃ k:Nat,vi=.int .i64 k∧k≤n∧Hid (la.take k=lb.take k)∧Below w.heap.size w wr) (fun vi _=>n - (intOf vi).toNat)
  case atStart=>exact ⟨0,rfl,by omega,rfl,Below.refl _ _⟩
  case round =>
   obtain ⟨k,rfl,hk,hr,hb⟩:=hrel
   by_cases hlt:k < n
   ·obtain ⟨ad,o,rfl,hg,c0⟩:=(hla.below hb).at_ hlt
    obtain ⟨ad2,o2,rfl,hg2,c02⟩:=(hlb.below hb).at_ hlt
    have HN:=Lib.hid (take_eq_nexti hg hg2 hr.out)
    clear hg hg2
    by_cases ho:o=o2
    ·have HX:=Lib.hid (HN.out.2 ho)
     subst ho
     go_wp2_with fail
     go_quiet (fail)
     go_wp2_with fail
     go_roundw
     case rel=>exact ⟨k + 1,by go_num,by omega,HX.out,below_drewN hb _⟩
     case measure=>simp [intOf];omega
    ·have HX:=Lib.hid (fun h=>ho (HN.out.1 h))
     have q2:(o == o2)=false:=by simpa using ho
     go_wp2_with fail
     go_quiet (fail)
     go_wp2_with fail
     go_ret
     exact ⟨ret_b (Eq.symm (decide_eq_false (fun h=>HX.out (by rw [h])))),below_drewN hb _⟩
   ·have HX:=Lib.hid (show la=lb by
     have h:=hr.out
     rw [List.take_of_length_le (by rw [←hla.1];omega),List.take_of_length_le (by rw [←hlb.1];omega)] at h
     exact h)
    go_wp2_with fail
    go_ret
    exact ⟨ret_b (Eq.symm (decide_eq_true HX.out)),hb⟩
 ·have HX:=Lib.hid (show ¬ la=lb from fun h=>hnm (by rw [hla.1,hlb.1,h]))
  have q1:(((n:Nat):Int) != ((m:Nat):Int))=true:=by simp;omega
  go_enter Tryz.func135,Tryz.ntmps135
  go_wp2_with fail
  go_ret
  exact ⟨ret_b (Eq.symm (decide_eq_false HX.out)),Below.refl _ _⟩
namespace K
def same (a b:Tr):Bool:=decide (a.stops=b.stops) && (decide (a.times=b.times) && (a.end_ == b.end_))
def check (nd:Int) (l:List Ro) (s:S) (r:List Q) (t:Tr):Bool:=((run nd l s r t.stops).e == 0) && (decide ((run nd l s r t.stops).tour.times=t.times) && ((run nd l s r t.stops).tour.end_ == t.end_))
end K
theorem K.legs_len (nd:Int) (l:List Ro) (s:S) (r:List Q):∀ (o v:List Int) (a t:Int),(K.legs nd l s r v a t o).times.length≤o.length:=by
 intro o
 induction o with
 | nil=>intro v a t;exact Nat.le_refl _
 | cons i o ih =>
  intro v a t
  unfold K.legs
  split
  ·simp
  ·simp only [List.length_cons]
   have:=ih (v ++ [i]) (K.req r i).node ((K.leg nd l s r v i a t).1 + (K.req r i).service)
   omega
theorem K.run_len (nd:Int) (l:List Ro) (s:S) (r:List Q) (o:List Int):(K.run nd l s r o).tour.stops.length≤o.length∧(K.run nd l s r o).tour.times.length≤o.length:=by
 have h:=K.legs_len nd l s r o [] s.depot s.start
 unfold K.run
 split
 ·simp [K.Tr.zero]
 ·split
  ·simp [K.Tr.zero]
  ·split
   ·simp [K.Tr.zero]
   ·exact ⟨Nat.le_refl _,h⟩
def TBlk (w:World) (g:Nat) (h:Int) (S T:Value) (en:Int):Prop:=w.heap[g]? = some (.cells #[.int .i64 h,S,T,.int .i64 en] 80 (0,0))
theorem TBlk.below {w w':World} {g:Nat} {h:Int} {S T:Value} {en:Int} (x:TBlk w g h S T en) (hb:Below w.heap.size w w'):TBlk w' g h S T en:=blk_below hb x
theorem TBlk.cells {w:World} {g:Nat} {h:Int} {S T:Value} {en:Int} (x:TBlk w g h S T en):w.cell? ⟨g,0,none⟩=some (.int .i64 h)∧w.cell? ⟨g,1,none⟩=some S∧w.cell? ⟨g,2,none⟩=some T∧w.cell? ⟨g,3,none⟩=some (.int .i64 en) :=
 ⟨blk_cell x 0 _ rfl,blk_cell x 1 _ rfl,blk_cell x 2 _ rfl,blk_cell x 3 _ rfl⟩
structure TV where
 sh:Int
 A:Option Addr
 n:Nat
 c:Nat
 A':Option Addr
 n':Nat
 c':Nat
 t:K.Tr
structure TVAt (w:World) (x:TV):Prop where
 stops:Ints w x.A x.n x.t.stops
 times:Ints w x.A' x.n' x.t.times
 b1:x.n≤1000000000
 b2:x.n'≤1000000000
theorem TVAt.below {w w':World} {x:TV} (h:TVAt w x) (hb:Below w.heap.size w w'):TVAt w' x:=⟨h.stops.below hb,h.times.below hb,h.b1,h.b2⟩
set_option maxRecDepth 100000 in
set_option maxHeartbeats 8000000 in
theorem tcheck_any (x:C) (y:TV) (w:World) (hx:At w x) (hy:TVAt w y) (hn:y.n≤100000) :
  Calls Tryz.prog 84 #[.agg #[.int .i64 x.nd,.slice x.A x.n x.c],.agg #[.int .i64 x.s.day,.int .i64 x.s.depot,.int .i64 x.s.start,.int .i64 x.s.end_,.int .i64 x.s.tare,.slice x.s.A x.s.n x.s.c],.slice x.B x.m x.d,.agg #[.int .i64 y.sh,.slice y.A y.n y.c,.slice y.A' y.n' y.c',.int .i64 y.t.end_]] w fun e w'=>e=.returned (.bool (K.check x.nd x.l x.s x.r y.t))∧Below w.heap.size w w':=by
 obtain ⟨w1,hw1⟩:∃ w1:World,w1=w.alloc (.cells #[.int .i64 x.nd,.slice x.A x.n x.c] 24):=⟨_,rfl⟩
 obtain ⟨w2,hw2⟩:∃ w2:World,w2=w1.alloc (.cells #[.int .i64 x.s.day,.int .i64 x.s.depot,.int .i64 x.s.start,.int .i64 x.s.end_,.int .i64 x.s.tare,.slice x.s.A x.s.n x.s.c] 63):=⟨_,rfl⟩
 obtain ⟨w3,hw3⟩:∃ w3:World,w3=w2.alloc (.cells #[.int .i64 y.sh,.slice y.A y.n y.c,.slice y.A' y.n' y.c',.int .i64 y.t.end_] 80):=⟨_,rfl⟩
 have z1:w1.heap.size=w.heap.size + 1:=by rw [hw1];exact World.size_alloc _ _
 have z2:w2.heap.size=w.heap.size + 1 + 1:=by rw [hw2,World.size_alloc,z1]
 have b01:Below w.heap.size w w1:=by rw [hw1];exact (Below.refl _ _).alloc (Nat.le_refl _) _
 have b12:Below w1.heap.size w1 w2:=by rw [hw2];exact (Below.refl _ _).alloc (Nat.le_refl _) _
 have b23:Below w2.heap.size w2 w3:=by rw [hw3];exact (Below.refl _ _).alloc (Nat.le_refl _) _
 have hP:Net w3 w.heap.size x.nd x.A x.n x.c:=by
  have h1:Net w1 w.heap.size x.nd x.A x.n x.c:=by rw [hw1];exact Net.new _ _ _ _ _
  exact (h1.below b12).below b23
 have hS:Shf w3 (w.heap.size + 1) x.s:=by
  have h1:Shf w2 (w.heap.size + 1) x.s:=by rw [←z1,hw2];exact Shf.new _ _
  exact h1.below b23
 have hT:TBlk w3 (w.heap.size + 1 + 1) y.sh (.slice y.A y.n y.c) (.slice y.A' y.n' y.c') y.t.end_:=by rw [←z2,hw3];exact heap_alloc_new _ _
 have b3:=bel (bel b01 b12) b23
 have p0:=hP.c0
 have p1:=hP.c1
 obtain ⟨s0,s1,s2,s3,s4,s5⟩:=hS.cells
 obtain ⟨t0,t1,t2,t3⟩:=hT.cells
 rw [hw3,hw2,hw1] at p0 p1 s0 s1 s2 s3 s4 s5 t0 t1 t2 t3
 go_enter Tryz.func84,Tryz.ntmps84
 go_wp2_with fail
 rw [←hw1,←hw2,←hw3]
 clear hw1 hw2 hw3 z1 z2 b01 b12 b23 p0 p1 s0 s1 s2 s3 s4 s5 t0 t1 t2 t3
 refine (run_any x y.A y.n y.c y.t.stops _ (hx.below b3) (hy.below b3).stops hn).mono ?_
 rintro e w4 ⟨⟨A1,n1,c1,A2,n2,c2,rfl,hI1,hI2,-⟩,b34⟩
 have hlen:=K.run_len x.nd x.l x.s x.r y.t.stops
 obtain ⟨R,hR⟩:∃ R,R=K.run x.nd x.l x.s x.r y.t.stops:=⟨_,rfl⟩
 rw [←hR] at hI1 hI2 hlen ⊢
 have HR:=Lib.hid (show K.check x.nd x.l x.s x.r y.t=((R.e == 0) && (decide (R.tour.times=y.t.times) && (R.tour.end_ == y.t.end_))) by rw [hR];rfl)
 have hn2:n2≤1000000000:=by rw [hI2.1];have:=hlen.2;have:=hy.stops.1;omega
 clear hR hlen
 have hT:=hT.below b34
 have hb:=bel b3 b34
 have ba:Below w4.heap.size w4 (w4.alloc (.cells #[.int .i64 0,.slice A1 n1 c1,.slice A2 n2 c2,.int .i64 R.tour.end_] 80)):=(Below.refl _ _).alloc (Nat.le_refl _) _
 have hT2:TBlk (w4.alloc (.cells #[.int .i64 0,.slice A1 n1 c1,.slice A2 n2 c2,.int .i64 R.tour.end_] 80)) w4.heap.size 0 (.slice A1 n1 c1) (.slice A2 n2 c2) R.tour.end_:=heap_alloc_new _ _
 have hT1:=hT.below ba
 obtain ⟨w5,hw5⟩:∃ w5:World,w5=w4.alloc (.cells #[.int .i64 0,.slice A1 n1 c1,.slice A2 n2 c2,.int .i64 R.tour.end_] 80):=⟨_,rfl⟩
 obtain ⟨q0,q1,q2,q3⟩:=hT1.cells
 obtain ⟨r0,r1,r2,r3⟩:=hT2.cells
 cases k0:(R.e == 0)
 ·have HX:=Lib.hid (show K.check x.nd x.l x.s x.r y.t=false by rw [HR.out,k0];rfl)
  clear hw5
  go_wp2_with fail
  go_ret
  exact ⟨ret_b HX.out.symm,bel hb ba⟩
 have HX:=Lib.hid (show K.check x.nd x.l x.s x.r y.t=(decide (R.tour.times=y.t.times) && (R.tour.end_ == y.t.end_)) by rw [HR.out,k0];rfl)
 go_wp2_with fail
 rw [←hw5] at ba hT1 hT2 ⊢
 have hb5:=bel hb ba
 have hI25:=hI2.below ba
 clear hw5 q0 q1 q2 q3 r0 r1 r2 r3 k0 HR
 refine (equal_any A2 y.A' n2 y.n' c2 y.c' R.tour.times y.t.times _ hI25 (hy.below hb5).times hn2 hy.b2).mono ?_
 rintro e w6 ⟨rfl,b56⟩
 have hT1:=hT1.below b56
 have hT2:=hT2.below b56
 have hb6:=bel hb5 b56
 obtain ⟨q0,q1,q2,q3⟩:=hT1.cells
 obtain ⟨r0,r1,r2,r3⟩:=hT2.cells
 cases k1:decide (R.tour.times=y.t.times)
 ·have HX:=Lib.hid (show K.check x.nd x.l x.s x.r y.t=false by rw [HX.out,k1];rfl)
  clear k1
  go_wp2_with fail
  go_ret
  exact ⟨ret_b HX.out.symm,hb6⟩
 have HX:=Lib.hid (show K.check x.nd x.l x.s x.r y.t=(R.tour.end_ == y.t.end_) by rw [HX.out,k1];rfl)
 clear k1
 go_wp2_with fail
 go_ret
 exact ⟨ret_b HX.out.symm,hb6⟩
namespace G
theorem carries_lighter {x:Ro} {k k':Int} (h:carries x k=true) (hk:k'≤k):carries x k'=true:=by
 simp [carries] at h ⊢;omega
theorem Walk.lighter {l:List Ro} {k k' s v t:Int} {e:Nat} (h:Walk l k s v t e) (hk:k'≤k):Walk l k' s v t e:=by
 induction h with
 | nil=>exact Walk.nil
 | snoc u t e x _ hx hc hxu ih=>exact Walk.snoc u t e x ih hx (carries_lighter hc hk) hxu
theorem Walk.append {l:List Ro} {k s u v t1 t2:Int} {e1 e2:Nat} (h1:Walk l k s u t1 e1) (h2:Walk l k u v t2 e2):Walk l k s v (t1 + t2) (e1 + e2):=by
 induction h2 with
 | nil=>simpa using h1
 | snoc w t e x _ hx hc hxu ih =>
  rw [←Int.add_assoc,←Nat.add_assoc]
  exact Walk.snoc w (t1 + t) (e1 + e) x ih hx hc hxu
end G
namespace K
theorem way_iff {nd:Int} {l:List Ro} (h:netErr nd l=0) {s k v:Int} (hs:0≤s∧s < nd) (hv:0≤v∧v < nd) :
  (way nd l s k v=-1∧∀ t e,¬ G.Walk l k s v t e)∨(0≤way nd l s k v∧(∃ e,G.Walk l k s v (way nd l s k v) e)∧∀ t e,G.Walk l k s v t e→way nd l s k v≤t):=by
 obtain ⟨m,rfl⟩:∃ m:Nat,nd=(m:Int):=⟨nd.toNat,by omega⟩
 exact (times_dist (k:=k) h (T.btw_iff.2 ⟨hs.1,by omega⟩)).2 v hv.1 hv.2
theorem way_mono {nd:Int} {l:List Ro} (h:netErr nd l=0) {s k k' v:Int} (hs:0≤s∧s < nd) (hv:0≤v∧v < nd) (hk:k'≤k) (hw:way nd l s k v ≠ -1):way nd l s k' v ≠ -1∧0≤way nd l s k' v∧way nd l s k' v≤way nd l s k v:=by
 rcases way_iff (k:=k) h hs hv with ⟨h1,_⟩ | ⟨h1,⟨e,h2⟩,_⟩
 ·exact absurd h1 hw
 ·rcases way_iff (k:=k') h hs hv with ⟨_,g2⟩ | ⟨g1,_,g3⟩
  ·exact absurd (h2.lighter hk) (g2 _ _)
  ·have:=g3 _ _ (h2.lighter hk)
   exact ⟨by omega,g1,this⟩
theorem way_tri {nd:Int} {l:List Ro} (h:netErr nd l=0) {a b c k k2:Int} (ha:0≤a∧a < nd) (hb:0≤b∧b < nd) (hc:0≤c∧c < nd) (hk:k≤k2) (h1:way nd l a k b ≠ -1) (h2:way nd l b k2 c ≠ -1) :
  way nd l a k c ≠ -1∧0≤way nd l a k c∧way nd l a k c≤way nd l a k b + way nd l b k2 c:=by
 rcases way_iff (k:=k) h ha hb with ⟨x,_⟩ | ⟨_,⟨e1,w1⟩,_⟩
 ·exact absurd x h1
 ·rcases way_iff (k:=k2) h hb hc with ⟨x,_⟩ | ⟨_,⟨e2,w2⟩,_⟩
  ·exact absurd x h2
  ·have w3:=w1.append (w2.lighter hk)
   rcases way_iff (k:=k) h ha hc with ⟨_,g2⟩ | ⟨g1,_,g3⟩
   ·exact absurd w3 (g2 _ _)
   ·have:=g3 _ _ w3
    exact ⟨by omega,g1,this⟩
theorem reach_mk {nd:Int} {l:List Ro} {s:S} {r:List Q} {v:List Int} {a t c:Int} (h1:way nd l a (T.weight s r v) c ≠ -1) (h2:t + way nd l a (T.weight s r v) c≤s.end_):reach nd l s r v a t c=(t + way nd l a (T.weight s r v) c,0):=by
 unfold reach
 rw [if_neg h1,if_neg (by omega)]
theorem leg_mk {nd:Int} {l:List Ro} {s:S} {r:List Q} {v:List Int} {i a t:Int} (h1:(req r i).frm≤s.day) (h2:s.day≤(req r i).by_) (h3:T.fits s r (v ++ [i])=true) (h4:(reach nd l s r v a t (req r i).node).2=0) (h5:(H.fit (req r i).l (reach nd l s r v a t (req r i).node).1 (req r i).service).2=true)
  (h6:(H.fit (req r i).l (reach nd l s r v a t (req r i).node).1 (req r i).service).1 + (req r i).service≤s.end_):leg nd l s r v i a t=((H.fit (req r i).l (reach nd l s r v a t (req r i).node).1 (req r i).service).1,0):=by
 unfold leg
 rw [if_neg (by omega),if_neg (by simp [h3]),if_neg (by simp [h4]),if_neg (by simp [h5]),if_neg (by omega)]
def Dom (nd:Int) (l:List Ro) (s:S) (r:List Q) (v:List Int) (a t:Int) (s':S) (r':List Q) (v':List Int) (a' t':Int):Prop :=
 ∀ c,0≤c∧c < nd→(reach nd l s r v a t c).2=0→(reach nd l s' r' v' a' t' c).2=0∧0≤(reach nd l s' r' v' a' t' c).1∧(reach nd l s' r' v' a' t' c).1≤(reach nd l s r v a t c).1
theorem Dom.same {nd:Int} {l:List Ro} (hne:netErr nd l=0) {s s':S} {r r':List Q} {v v':List Int} {a t t':Int} (ha:0≤a∧a < nd) (hw:T.weight s' r' v'≤T.weight s r v) (h0:0≤t') (ht:t'≤t) (he:s.end_≤s'.end_):Dom nd l s r v a t s' r' v' a t':=by
 intro c hc h
 obtain ⟨h1,h2,h3,h4⟩:=reach_ok h
 obtain ⟨g1,g2,g3⟩:=way_mono hne ha hc hw h1
 rw [reach_mk g1 (by omega)]
 exact ⟨rfl,by simp only;omega,by simp only;omega⟩
def Alike (r r':List Q) (o:List Int):Prop:=∀ i ∈ o,(req r' i).node=(req r i).node∧(req r' i).service=(req r i).service∧(req r' i).frm=(req r i).frm∧(req r' i).by_=(req r i).by_∧(req r' i).l=(req r i).l
def Fine (nd:Int) (r:List Q) (o:List Int):Prop:=∀ i ∈ o,(0≤(req r i).node∧(req r i).node < nd)∧0≤(req r i).service
theorem leg_dom {nd:Int} {l:List Ro} {s s':S} {r r':List Q} {v v':List Int} {i a a' t t':Int} (hd:Dom nd l s r v a t s' r' v' a' t') (hday:s'.day=s.day) (he:s.end_≤s'.end_)
  (hq:(req r' i).node=(req r i).node∧(req r' i).service=(req r i).service∧(req r' i).frm=(req r i).frm∧(req r' i).by_=(req r i).by_∧(req r' i).l=(req r i).l) (hn:0≤(req r i).node∧(req r i).node < nd)
  (hf:T.fits s r (v ++ [i])=true→T.fits s' r' (v' ++ [i])=true) (h:(leg nd l s r v i a t).2=0):(leg nd l s' r' v' i a' t').2=0∧(leg nd l s' r' v' i a' t').1≤(leg nd l s r v i a t).1∧0≤(leg nd l s' r' v' i a' t').1:=by
 obtain ⟨l1,l2,l3,l4,l5,l6,l7⟩:=leg_ok h
 obtain ⟨q1,q2,q3,q4,q5⟩:=hq
 obtain ⟨d1,d2,d3⟩:=hd _ hn l4
 obtain ⟨f1,f2,f3,f4,f5⟩:=H.fit_ok l5
 obtain ⟨m1,m2⟩:=(H.first_two f1 (t:=(reach nd l s' r' v' a' t' (req r i).node).1) (o:=(reach nd l s r v a t (req r i).node).1) (by omega) f3 (by omega)).1 l5
 have g5:(H.fit (req r' i).l (reach nd l s' r' v' a' t' (req r' i).node).1 (req r' i).service).2=true:=by rw [q1,q2,q5];exact m1
 have hfb:=(H.fit_ok m1).2.2.2.1
 rw [l6] at l7 ⊢
 rw [leg_mk (by omega) (by omega) (hf l3) (by rw [q1];exact d1) g5 (by rw [q1,q2,q5];omega)]
 simp only
 rw [q1,q2,q5]
 exact ⟨trivial,m2,by omega⟩
theorem legs_cons_ok {nd:Int} {l:List Ro} {s:S} {r:List Q} {v:List Int} {i a t:Int} {o:List Int} (h:(legs nd l s r v a t (i :: o)).e=0):(leg nd l s r v i a t).2=0 ∧
  legs nd l s r v a t (i :: o)=⟨(leg nd l s r v i a t).1 :: (legs nd l s r (v ++ [i]) (req r i).node ((leg nd l s r v i a t).1 + (req r i).service) o).times,(legs nd l s r (v ++ [i]) (req r i).node ((leg nd l s r v i a t).1 + (req r i).service) o).a,(legs nd l s r (v ++ [i]) (req r i).node ((leg nd l s r v i a t).1 + (req r i).service) o).t,(legs nd l s r (v ++ [i]) (req r i).node ((leg nd l s r v i a t).1 + (req r i).service) o).e⟩:=by
 unfold legs at h
 split at h
 ·rename_i h1;exact absurd h h1
 ·rename_i h1
  refine ⟨by simpa using h1,?_⟩
  conv=>lhs;unfold legs
  rw [if_neg h1]
theorem legs_cons_mk {nd:Int} {l:List Ro} {s:S} {r:List Q} {v:List Int} {i a t:Int} {o:List Int} (h:(leg nd l s r v i a t).2=0) :
  legs nd l s r v a t (i :: o)=⟨(leg nd l s r v i a t).1 :: (legs nd l s r (v ++ [i]) (req r i).node ((leg nd l s r v i a t).1 + (req r i).service) o).times,(legs nd l s r (v ++ [i]) (req r i).node ((leg nd l s r v i a t).1 + (req r i).service) o).a,(legs nd l s r (v ++ [i]) (req r i).node ((leg nd l s r v i a t).1 + (req r i).service) o).t,(legs nd l s r (v ++ [i]) (req r i).node ((leg nd l s r v i a t).1 + (req r i).service) o).e⟩:=by
 conv=>lhs;unfold legs
 rw [if_neg (by simp [h])]
def Ahead (a b:List Int):Prop:=a.length=b.length∧∀ (k:Nat) (x y:Int),a[k]? = some x→b[k]? = some y→x≤y
theorem Ahead.nil:Ahead [] []:=⟨rfl,fun k x y h=>by simp at h⟩
theorem Ahead.cons {x y:Int} {a b:List Int} (h:x≤y) (hab:Ahead a b):Ahead (x :: a) (y :: b):=by
 refine ⟨by simp [hab.1],fun k u v hu hv=>?_⟩
 cases k with
 | zero=>simp at hu hv;omega
 | succ k=>exact hab.2 k u v (by simpa using hu) (by simpa using hv)
theorem Ahead.refl (a:List Int):Ahead a a:=⟨rfl,fun k x y h1 h2=>by rw [h1] at h2;injection h2 with h2;omega⟩
theorem legs_dom {nd:Int} {l:List Ro} (hne:netErr nd l=0) {s s':S} {r r':List Q} (hday:s'.day=s.day) (he:s.end_≤s'.end_):∀ (o v v':List Int) (a a' t t':Int),Alike r r' o→Fine nd r o →
  (∀ p,p <+: o→T.weight s' r' (v' ++ p)≤T.weight s r (v ++ p))→(∀ p,p <+: o→T.fits s r (v ++ p)=true→T.fits s' r' (v' ++ p)=true)→Dom nd l s r v a t s' r' v' a' t'→(legs nd l s r v a t o).e=0 →
  (legs nd l s' r' v' a' t' o).e=0∧Ahead (legs nd l s' r' v' a' t' o).times (legs nd l s r v a t o).times ∧
   Dom nd l s r (v ++ o) (legs nd l s r v a t o).a (legs nd l s r v a t o).t s' r' (v' ++ o) (legs nd l s' r' v' a' t' o).a (legs nd l s' r' v' a' t' o).t:=by
 intro o
 induction o with
 | nil=>intro v v' a a' t t' _ _ _ _ hd _;exact ⟨rfl,Ahead.nil,by simpa [legs] using hd⟩
 | cons i o ih =>
  intro v v' a a' t t' hal hfi hw hf hd h
  obtain ⟨h1,h2⟩:=legs_cons_ok h
  obtain ⟨⟨n1,n2⟩,n3⟩:=hfi i List.mem_cons_self
  have hq:=hal i List.mem_cons_self
  obtain ⟨g1,g2,g3⟩:=leg_dom hd hday he hq ⟨n1,n2⟩ (hf [i] (by simp)) h1
  have h3:=legs_cons_mk (o:=o) g1
  rw [h2] at h ⊢
  rw [h3]
  simp only at h ⊢
  rw [hq.1,hq.2.1]
  have hd2:Dom nd l s r (v ++ [i]) (req r i).node ((leg nd l s r v i a t).1 + (req r i).service) s' r' (v' ++ [i]) (req r i).node ((leg nd l s' r' v' i a' t').1 + (req r i).service) :=
   Dom.same hne ⟨n1,n2⟩ (hw [i] (by simp)) (by omega) (by omega) he
  obtain ⟨i1,i2,i3⟩:=ih (v ++ [i]) (v' ++ [i]) _ _ _ _ (fun j hj=>hal j (List.mem_cons_of_mem _ hj)) (fun j hj=>hfi j (List.mem_cons_of_mem _ hj))
   (fun p hp=>by have:=hw (i :: p) (List.cons_prefix_cons.2 ⟨rfl,hp⟩);simpa using this) (fun p hp=>by have:=hf (i :: p) (List.cons_prefix_cons.2 ⟨rfl,hp⟩);simpa using this) hd2 h
  refine ⟨i1,Ahead.cons g2 i2,?_⟩
  simpa using i3
theorem legs_app {nd:Int} {l:List Ro} {s:S} {r:List Q}:∀ (o1 v:List Int) (a t:Int) (o2:List Int),(legs nd l s r v a t o1).e=0 →
  legs nd l s r v a t (o1 ++ o2)=⟨(legs nd l s r v a t o1).times ++ (legs nd l s r (v ++ o1) (legs nd l s r v a t o1).a (legs nd l s r v a t o1).t o2).times,(legs nd l s r (v ++ o1) (legs nd l s r v a t o1).a (legs nd l s r v a t o1).t o2).a,
   (legs nd l s r (v ++ o1) (legs nd l s r v a t o1).a (legs nd l s r v a t o1).t o2).t,(legs nd l s r (v ++ o1) (legs nd l s r v a t o1).a (legs nd l s r v a t o1).t o2).e⟩:=by
 intro o1
 induction o1 with
 | nil=>intro v a t o2 _;simp [legs]
 | cons i o1 ih =>
  intro v a t o2 h
  obtain ⟨h1,h2⟩:=legs_cons_ok h
  rw [h2] at h
  rw [List.cons_append,legs_cons_mk h1,ih _ _ _ o2 h,h2]
  simp
theorem legs_take {nd:Int} {l:List Ro} {s:S} {r:List Q}:∀ (o v:List Int) (a t:Int) (k:Nat),(k≤(legs nd l s r v a t o).times.length→(legs nd l s r v a t (o.take k)).e=0∧(legs nd l s r v a t (o.take k)).times=(legs nd l s r v a t o).times.take k) ∧
  ((legs nd l s r v a t o).times.length < k→(legs nd l s r v a t (o.take k)).e=(legs nd l s r v a t o).e∧(legs nd l s r v a t (o.take k)).times=(legs nd l s r v a t o).times):=by
 intro o
 induction o with
 | nil=>intro v a t k;simp [legs]
 | cons i o ih =>
  intro v a t k
  cases k with
  | zero=>simp [legs]
  | succ k =>
   rw [List.take_succ_cons]
   by_cases h:(leg nd l s r v i a t).2=0
   ·rw [legs_cons_mk h,legs_cons_mk h]
    obtain ⟨i1,i2⟩:=ih (v ++ [i]) (req r i).node ((leg nd l s r v i a t).1 + (req r i).service) k
    simp only [List.length_cons]
    refine ⟨fun hk=>?_,fun hk=>?_⟩
    ·obtain ⟨j1,j2⟩:=i1 (by omega)
     exact ⟨j1,by rw [j2];rfl⟩
    ·obtain ⟨j1,j2⟩:=i2 (by omega)
     exact ⟨j1,by rw [j2]⟩
   ·have e1:∀ o',legs nd l s r v a t (i :: o')=⟨[],a,t,(leg nd l s r v i a t).2⟩:=fun o'=>by
     conv=>lhs;unfold legs
     rw [if_pos h]
    rw [e1,e1]
    simp
theorem legs_full {nd:Int} {l:List Ro} {s:S} {r:List Q}:∀ (o v:List Int) (a t:Int),((legs nd l s r v a t o).e=0→(legs nd l s r v a t o).times.length=o.length)∧((legs nd l s r v a t o).e ≠ 0→(legs nd l s r v a t o).times.length < o.length):=by
 intro o
 induction o with
 | nil=>intro v a t;simp [legs]
 | cons i o ih =>
  intro v a t
  by_cases h:(leg nd l s r v i a t).2=0
  ·rw [legs_cons_mk h]
   obtain ⟨i1,i2⟩:=ih (v ++ [i]) (req r i).node ((leg nd l s r v i a t).1 + (req r i).service)
   simp only [List.length_cons]
   exact ⟨fun hk=>by rw [i1 hk],fun hk=>by have:=i2 hk;omega⟩
  ·have e1:legs nd l s r v a t (i :: o)=⟨[],a,t,(leg nd l s r v i a t).2⟩:=by
    conv=>lhs;unfold legs
    rw [if_pos h]
   rw [e1]
   exact ⟨fun hk=>absurd hk h,fun _=>by simp⟩
theorem legs_at {nd:Int} {l:List Ro} {s:S} {r:List Q}:∀ (o v:List Int) (a t:Int),Fine nd r o→0≤a∧a < nd→0≤t→(legs nd l s r v a t o).e=0→(0≤(legs nd l s r v a t o).a∧(legs nd l s r v a t o).a < nd)∧t≤(legs nd l s r v a t o).t:=by
 intro o
 induction o with
 | nil=>intro v a t _ ha ht _;exact ⟨ha,Int.le_refl _⟩
 | cons i o ih =>
  intro v a t hf ha ht h
  obtain ⟨h1,h2⟩:=legs_cons_ok h
  rw [h2] at h ⊢
  obtain ⟨n1,n2⟩:=hf i List.mem_cons_self
  obtain ⟨-,-,-,l4,l5,l6,-⟩:=leg_ok h1
  obtain ⟨-,r2,r3,-⟩:=reach_ok l4
  obtain ⟨-,-,-,f4,-⟩:=H.fit_ok l5
  have:=ih (v ++ [i]) (req r i).node ((leg nd l s r v i a t).1 + (req r i).service) (fun j hj=>hf j (List.mem_cons_of_mem _ hj)) n1 (by omega) h
  refine ⟨this.1,?_⟩
  have:=this.2
  simp only
  omega
end K
namespace K
def all (nd:Int) (l:List Ro) (s:S) (r:List Q) (o:List Int):Legs:=legs nd l s r [] s.depot s.start o
def back (nd:Int) (l:List Ro) (s:S) (r:List Q) (o:List Int):Int × Int:=reach nd l s r o (all nd l s r o).a (all nd l s r o).t s.depot
theorem run_cases (nd:Int) (l:List Ro) (s:S) (r:List Q) (o:List Int) :
  (right nd l s r o=false∧run nd l s r o=⟨Tr.zero,1,0⟩) ∨
  (right nd l s r o=true∧(all nd l s r o).e ≠ 0∧run nd l s r o=⟨Tr.zero,(all nd l s r o).e,(all nd l s r o).times.length⟩) ∨
  (right nd l s r o=true∧(all nd l s r o).e=0∧(back nd l s r o).2 ≠ 0∧run nd l s r o=⟨Tr.zero,(back nd l s r o).2,o.length⟩) ∨
  (right nd l s r o=true∧(all nd l s r o).e=0∧(back nd l s r o).2=0∧run nd l s r o=⟨⟨o,(all nd l s r o).times,(back nd l s r o).1⟩,0,o.length⟩):=by
 by_cases hr:right nd l s r o=true
 ·have h:=run_legs hr (show legs nd l s r [] s.depot s.start o=all nd l s r o from rfl)
  by_cases h1:(all nd l s r o).e=0
  ·rw [if_neg (by simp [h1])] at h
   by_cases h2:(back nd l s r o).2=0
   ·rw [if_neg (by show ¬ ((back nd l s r o).2 ≠ 0);simp [h2])] at h
    exact .inr (.inr (.inr ⟨hr,h1,h2,h⟩))
   ·rw [if_pos (by show (back nd l s r o).2 ≠ 0;exact h2)] at h
    exact .inr (.inr (.inl ⟨hr,h1,h2,h⟩))
  ·rw [if_pos h1] at h
   exact .inr (.inl ⟨hr,h1,h⟩)
 ·have hr':right nd l s r o=false:=by simpa using hr
  refine .inl ⟨hr',?_⟩
  unfold run
  rw [if_pos hr']
theorem run_ok {nd:Int} {l:List Ro} {s:S} {r:List Q} {o:List Int} (h:(run nd l s r o).e=0):right nd l s r o=true∧(all nd l s r o).e=0∧(back nd l s r o).2=0∧run nd l s r o=⟨⟨o,(all nd l s r o).times,(back nd l s r o).1⟩,0,o.length⟩:=by
 rcases run_cases nd l s r o with ⟨_,e⟩ | ⟨_,h1,e⟩ | ⟨_,_,h1,e⟩ | h4
 ·rw [e] at h;simp at h
 ·rw [e] at h;exact absurd h h1
 ·rw [e] at h;exact absurd h h1
 ·exact h4
theorem run_mk {nd:Int} {l:List Ro} {s:S} {r:List Q} {o:List Int} (h1:right nd l s r o=true) (h2:(all nd l s r o).e=0) (h3:(back nd l s r o).2=0):run nd l s r o=⟨⟨o,(all nd l s r o).times,(back nd l s r o).1⟩,0,o.length⟩:=by
 rcases run_cases nd l s r o with ⟨h,_⟩ | ⟨_,h,_⟩ | ⟨_,_,h,_⟩ | ⟨_,_,_,h⟩
 ·rw [h1] at h;cases h
 ·exact absurd h2 h
 ·exact absurd h3 h
 ·exact h
theorem right_sub {nd:Int} {l:List Ro} {s:S} {r:List Q} {o p:List Int} (h:right nd l s r o=true) (hp:p.Sublist o):right nd l s r p=true:=by
 obtain ⟨h1,h2,h3,h4⟩:=right_parts h
 simp only [right,Bool.and_eq_true,beq_iff_eq,decide_eq_true_eq,List.all_eq_true]
 exact ⟨h1,T.load_sub h2 hp,h3,fun i hi=>h4 i (hp.subset hi)⟩
end K
end Go.Proofs.YtippdjmpkafifaaGreat
