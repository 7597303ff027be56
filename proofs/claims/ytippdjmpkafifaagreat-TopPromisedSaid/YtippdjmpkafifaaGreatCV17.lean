import Derived.Test.YtippdjmpkafifaaGreatCV12
import Derived.Test.YtippdjmpkafifaaGreatCV16
import Derived.Test.YtippdjmpkafifaaGreatCV13
import Derived.Test.YtippdjmpkafifaaGreatCV10
import Derived.Test.YtippdjmpkafifaaGreatCV7
import Derived.Test.YtippdjmpkafifaaGreatCV14
namespace Go.Proofs.YtippdjmpkafifaaGreat
open Go.RowKit
theorem Q.bare_eq {a b:Q} (h:a.bare=b.bare):a.node=b.node∧a.room=b.room∧a.kilos=b.kilos∧a.service=b.service∧a.frm=b.frm∧a.by_=b.by_∧a.l=b.l:=by
 unfold Q.bare at h
 injection h with h1 h2 h3 h4 h5 h6 _ _ _ h7
 exact ⟨h1,h2,h3,h4,h5,h6,h7⟩
set_option maxRecDepth 100000 in
set_option maxHeartbeats 8000000 in
theorem sameReq60_yes (a b:Q) (w:World) (ha:Wins w a.A a.n a.l) (hb:Wins w b.A b.n b.l) (h:a.bare=b.bare) (hn:a.n≤1000000000) :
  Calls Tryz.prog 60 #[.agg #[.int .i64 a.node,.int .i64 a.room,.int .i64 a.kilos,.int .i64 a.service,.int .i64 a.frm,.int .i64 a.by_,.slice a.A a.n a.c],.agg #[.int .i64 b.node,.int .i64 b.room,.int .i64 b.kilos,.int .i64 b.service,.int .i64 b.frm,.int .i64 b.by_,.slice b.A b.n b.c]] w fun e w'=>e=.returned (.bool true)∧Below w.heap.size w w':=by
 obtain ⟨a1,a2,a3,a4,a5,a6,Aa,na,ca,la⟩:=a
 obtain ⟨b1,b2,b3,b4,b5,b6,Ab,nb,cb,lb⟩:=b
 obtain ⟨h1,h2,h3,h4,h5,h6,h7⟩:=Q.bare_eq h
 dsimp only at h1 h2 h3 h4 h5 h6 h7 ha hb hn
 obtain rfl:nb=na:=by rw [ha.1,hb.1,h7]
 subst h1 h2 h3 h4 h5 h6 h7
 clear h
 obtain ⟨w1,hw1⟩:∃ w1:World,w1=w.alloc (.cells #[.int .i64 a1,.int .i64 a2,.int .i64 a3,.int .i64 a4,.int .i64 a5,.int .i64 a6,.slice Aa nb ca] 47):=⟨_,rfl⟩
 have b01:Below w.heap.size w w1:=by rw [hw1];exact (Below.refl _ _).alloc (Nat.le_refl _) _
 obtain ⟨g,hg⟩:∃ g,g=w.heap.size:=⟨_,rfl⟩
 have hA1:QBlk w1 g ⟨a1,a2,a3,a4,a5,a6,Aa,nb,ca,la⟩:=by rw [hw1,hg];exact heap_alloc_new _ _
 obtain ⟨w2,hw2⟩:∃ w2:World,w2=w1.alloc (.cells #[.int .i64 a1,.int .i64 a2,.int .i64 a3,.int .i64 a4,.int .i64 a5,.int .i64 a6,.slice Ab nb cb] 47):=⟨_,rfl⟩
 have b12:Below w1.heap.size w1 w2:=by rw [hw2];exact (Below.refl _ _).alloc (Nat.le_refl _) _
 have z1:w1.heap.size=g + 1:=by rw [hw1,hg];exact World.size_alloc _ _
 have hB2:QBlk w2 (g + 1) ⟨a1,a2,a3,a4,a5,a6,Ab,nb,cb,la⟩:=by rw [hw2,←z1];exact heap_alloc_new _ _
 have hA2:=hA1.below b12
 have hb2:=bel b01 b12
 obtain ⟨c0,c1,c2,c3,c4,c5,c6⟩:=hA2.cells
 obtain ⟨d0,d1,d2,d3,d4,d5,d6⟩:=hB2.cells
 have ee:∀ z:Int,(z != z)=false:=fun z=>by simp
 go_enter Tryz.func60,Tryz.ntmps60
 go_wp2_with fail
 rw [←hw1,←hg,←hw2]
 clear hw1 hg hw2 hA1 b01 b12 z1
 clear c0 c1 c2 c3 c4 c5 c6 d0 d1 d2 d3 d4 d5 d6
 go_loopw [5] (fun v wr=>∃ k:Nat,v=.int .i64 k∧k≤nb∧Below w2.heap.size w2 wr) (fun v _=>nb - (intOf v).toNat)
 case atStart=>exact ⟨0,rfl,Nat.zero_le _,Below.refl _ _⟩
 case round =>
  obtain ⟨k,rfl,hk,hbr⟩:=hrel
  have hbw:=bel hb2 hbr
  have c6:=(hA2.below hbr).cells.2.2.2.2.2.2
  have d6:=(hB2.below hbr).cells.2.2.2.2.2.2
  dsimp only at c6 d6
  by_cases hlt:k < nb
  ·obtain ⟨ad,o,e,hA,hl,q0,q1⟩:=(ha.below hbw).at_ hlt
   obtain ⟨ad2,o2,e2,hB,hl2,r0,r1⟩:=(hb.below hbw).at_ hlt
   rw [hl] at hl2
   injection hl2 with hl2
   injection hl2 with ho he
   subst ho he
   have k0:(0:Int)≤(k:Int):=by omega
   have k1:(k:Int) < (nb:Int):=by omega
   rw [hA] at c6
   rw [hB] at d6
   clear hl hA hB
   go_wp2_with fail
   go_quiet (fail)
   go_wp2_with fail
   go_roundw
   case rel=>exact ⟨k + 1,by go_num,hlt,below_drewN hbr _⟩
   case measure=>simp [intOf];omega
  ·have hd:decide ((k:Int) < (nb:Int))=false:=by simp;omega
   have hd2:decide (k < nb)=false:=by simp;omega
   go_wp2_with fail
   go_ret
   exact ⟨rfl,hbw⟩
theorem K.ask_right {nd:Int} {l:List Ro} {ss:List S} {r:List Q} {x:Q} (hm:r.length≤6→r.length≤3) (h:(K.ask33 nd l ss r x).2.2=0) :
  K.check33 nd l ss r x (K.ask33 nd l ss r x).2.1=true∧(((K.ask33 nd l ss r x).2.1.acc=true∧(K.plan nd l ss (r ++ [x])).2=0)∨((K.ask33 nd l ss r x).2.1.acc=false∧(K.plan nd l ss (r ++ [x])).2=4)):=by
 rcases K.ask_cases (nd:=nd) (l:=l) (ss:=ss) (r:=r) (x:=x) with ⟨e,h1,h2⟩ | ⟨⟨h1,h2,h3⟩,h4⟩
 ·rw [h2] at h;exact absurd h h1
 have hp:K.pcheck nd l ss r=0:=by
  unfold K.plan at h1
  by_cases h9:K.pcheck nd l ss r=0
  ·exact h9
  ·rw [if_neg h9] at h1;exact h1
 refine ⟨(K.ask_check (K.pcheck_ok hp).2.1 (hm (by omega)) h).1,?_⟩
 rcases h4 with ⟨h4,h5⟩ | ⟨h4,v,h5,h6⟩
 ·exact .inl ⟨by rw [h5],h4⟩
 ·exact .inr ⟨by rw [h6],h4⟩
theorem check_app (x:Cs) (q:Q) (a:AV) (acc z:Bool) (w:World) (hx:Ok33 w x q) (ha:AvAt w a) (hao:AvOk a) (hac:acc=a.acc) (hz:K.check33 x.nd x.l x.ss x.r q a.an=z) :
  Calls Tryz.prog 37 #[.agg #[.int .i64 x.nd,.slice x.A x.n x.c,.slice x.SA x.sn x.sc,.slice x.B x.m x.d],.agg #[.int .i64 q.node,.int .i64 q.room,.int .i64 q.kilos,.int .i64 q.service,.int .i64 q.frm,.int .i64 q.by_,.slice q.A q.n q.c],.agg #[.bool acc,.slice a.PA a.pn a.pc,.slice a.VA a.vn a.vc,.slice a.RA a.rn a.rc]] w fun e w'=>e=.returned (.bool z)∧Below w.heap.size w w':=by
 subst hac hz
 exact pcheck33_any x q a w hx ha hao
structure DoneT (W0:World) (T:World→Prop) (a0 a1 a2 a3 b0 b1 b2 b3:Value) (gA gB:Nat) (w:World):Prop where
 hA:w.heap[gA]? = some (.cells #[a0,a1,a2,a3] 44 (0,0))
 hB:w.heap[gB]? = some (.cells #[b0,b1,b2,b3] 50 (0,0))
 told:T w
 bel:Below W0.heap.size W0 w
 lA:W0.heap.size≤gA
 lB:W0.heap.size≤gB
section
variable {W0 w2 : World} {T : World → Prop} {a0 a1 a2 a3 b0 b1 b2 b3 : Value} {B : Nat}
theorem doneT1 (b:Below W0.heap.size W0 w2) (hT:∀ w',Stays B w2 w'→T w') :
  DoneT W0 T a0 a1 a2 a3 b0 b1 b2 b3 w2.heap.size (w2.heap.size + 1) ((w2.alloc (.cells #[a0,a1,a2,a3] 44)).alloc (.cells #[b0,b1,b2,b3] 50)) :=
 have h1:=bel_alloc (Below.refl w2.heap.size w2) (.cells #[a0,a1,a2,a3] 44)
 ⟨blk_alloc (heap_alloc_new _ _) _,heap_alloc_at _ _ _ (World.size_alloc _ _).symm,hT _ (Stays.below B (bel_alloc h1 _)),bel_alloc (bel_alloc b _) _,b.size,Nat.le_succ_of_le b.size⟩
theorem doneT2 (b:Below W0.heap.size W0 w2) (hT:∀ w',Stays B w2 w'→T w') :
  DoneT W0 T a0 a1 a2 a3 b0 b1 b2 b3 (w2.heap.size + 1) w2.heap.size ((w2.alloc (.cells #[b0,b1,b2,b3] 50)).alloc (.cells #[a0,a1,a2,a3] 44)) :=
 have h1:=bel_alloc (Below.refl w2.heap.size w2) (.cells #[b0,b1,b2,b3] 50)
 ⟨heap_alloc_at _ _ _ (World.size_alloc _ _).symm,blk_alloc (heap_alloc_new _ _) _,hT _ (Stays.below B (bel_alloc h1 _)),bel_alloc (bel_alloc b _) _,Nat.le_succ_of_le b.size,b.size⟩
theorem doneT3 {x0 x1 x2 x3:Value} {gA:Nat} (b:Below W0.heap.size W0 w2) (hT:∀ w',Stays B w2 w'→T w') (hA:w2.heap[gA]? = some (.cells #[x0,x1,x2,x3] 44 (0,0))) (lA:gA < B) (zA:W0.heap.size≤gA) (u0 u1 u2 u3:Value) :
  DoneT W0 T a0 a1 a2 a3 b0 b1 b2 b3 gA w2.heap.size (St4 (St4 (w2.alloc (.cells #[u0,u1,u2,u3] 50)) gA a0 a1 a2 a3) w2.heap.size b0 b1 b2 b3):=by
 have hs:=blk_lt hA
 have h1:=bel_alloc (Below.refl w2.heap.size w2) (.cells #[u0,u1,u2,u3] 50)
 have hst:=St4.stays (St4.stays (Stays.below B h1) (.inl lA) a0 a1 a2 a3) (.inr (Nat.le_refl _)) b0 b1 b2 b3
 refine ⟨?_,?_,hT _ hst,St4.below (St4.below (bel_alloc b _) zA _ _ _ _) b.size _ _ _ _,zA,b.size⟩
 ·rw [St4.other (by omega)]
  exact St4.at_ (blk_alloc hA _) _ _ _ _
 ·refine St4.at_ (x0:=u0) (x1:=u1) (x2:=u2) (x3:=u3) ?_ _ _ _ _
  rw [St4.other (by omega)]
  exact heap_alloc_new _ _
theorem doneT4 {x0 x1 x2 x3 y0 y1 y2 y3:Value} {gA gB:Nat} (b:Below W0.heap.size W0 w2) (hT:∀ w',Stays B w2 w'→T w') (hA:w2.heap[gA]? = some (.cells #[x0,x1,x2,x3] 44 (0,0))) (lA:gA < B) (zA:W0.heap.size≤gA) (hBB:w2.heap[gB]? = some (.cells #[y0,y1,y2,y3] 50 (0,0))) (lB:gB < B) (zB:W0.heap.size≤gB) :
  DoneT W0 T a0 a1 a2 a3 b0 b1 b2 b3 gA gB (St4 (St4 w2 gA a0 a1 a2 a3) gB b0 b1 b2 b3):=by
 have hne:gA ≠ gB:=fun e=>by rw [e,hBB] at hA;simp at hA
 have hst:=St4.stays (St4.stays (Stays.below B (Below.refl w2.heap.size w2)) (.inl lA) a0 a1 a2 a3) (.inl lB) b0 b1 b2 b3
 refine ⟨?_,?_,hT _ hst,St4.below (St4.below b zA _ _ _ _) zB _ _ _ _,zA,zB⟩
 ·rw [St4.other hne]
  exact St4.at_ hA _ _ _ _
 ·refine St4.at_ (x0:=y0) (x1:=y1) (x2:=y2) (x3:=y3) ?_ _ _ _ _
  rw [St4.other hne.symm]
  exact hBB
theorem doneT5 {y0 y1 y2 y3:Value} {gB:Nat} (b:Below W0.heap.size W0 w2) (hT:∀ w',Stays B w2 w'→T w') (hBB:w2.heap[gB]? = some (.cells #[y0,y1,y2,y3] 50 (0,0))) (lB:gB < B) (zB:W0.heap.size≤gB) :
  DoneT W0 T a0 a1 a2 a3 b0 b1 b2 b3 w2.heap.size gB (St4 (w2.alloc (.cells #[a0,a1,a2,a3] 44)) gB b0 b1 b2 b3):=by
 have hs:=blk_lt hBB
 have h1:=bel_alloc (Below.refl w2.heap.size w2) (.cells #[a0,a1,a2,a3] 44)
 have hst:=St4.stays (Stays.below B h1) (.inl lB) b0 b1 b2 b3
 refine ⟨?_,St4.at_ (blk_alloc hBB _) _ _ _ _,hT _ hst,St4.below (bel_alloc b _) zB _ _ _ _,b.size,zB⟩
 rw [St4.other (by omega)]
 exact heap_alloc_new _ _
end
def OffSt (g:Nat) (w w':World):Prop:=∀ h o,h ≠ g→w.heap[h]? = some o→w'.heap[h]? = some o
theorem OffSt.refl (g:Nat) (w:World):OffSt g w w:=fun _ _ _ e=>e
theorem OffSt.trans {g:Nat} {a b c:World} (h:OffSt g a b) (h2:OffSt g b c):OffSt g a c:=fun k o hk e=>h2 k o hk (h k o hk e)
theorem OffSt.below {w w':World} (g:Nat) (h:Below w.heap.size w w'):OffSt g w w':=fun _ _ _ e=>blk_below h e
theorem Rd.off {w w':World} {size n g:Nat} {A:Option Addr} {xs:List Value} (h:Rd w size A n xs) (hs:OffSt g w w') (hA:0 < n→∀ ad,A=some ad→ad.block ≠ g):Rd w' size A n xs :=
 ⟨h.1,fun hn=>by
  obtain ⟨ad,e,hc⟩:=h.2 hn
  refine ⟨ad,e,fun j u hu=>?_⟩
  have h1:=hc j u hu
  have hlt:=cell_lt h1
  obtain ⟨o,ho⟩:∃ o,w.heap[(ad.add j).block]? = some o:=⟨_,Array.getElem?_eq_getElem hlt⟩
  refine (World.cell?_of_block ?_).trans h1
  rw [ho]
  exact hs _ _ (by rw [add_block];exact hA hn ad e) ho⟩
theorem Rd.lt_of {w:World} {size n:Nat} {A:Option Addr} {xs:List Value} (h:Rd w size A n xs) (hs:0 < size) (hn:0 < n):∀ ad,A=some ad→ad.block < w.heap.size:=fun ad e=>by
 obtain ⟨ad',e',hc⟩:=h.2 hn
 rw [e] at e'
 injection e' with e'
 subst e'
 have hl:0 < xs.length:=by rw [h.1];exact Nat.mul_pos hn hs
 have h1:=hc 0 _ (List.getElem?_eq_getElem hl)
 have h2:=cell_lt h1
 rwa [add_block] at h2
structure BkOff (g:Nat) (x:Cs):Prop where
 n:0 < x.n→∀ ad,x.A=some ad→ad.block ≠ g
 s:0 < x.sn→∀ ad,x.SA=some ad→ad.block ≠ g
 r:∀ s ∈ x.ss,0 < s.n→∀ ad,s.A=some ad→ad.block ≠ g
 q:0 < x.m→∀ ad,x.B=some ad→ad.block ≠ g
 w:∀ p ∈ x.r,0 < p.n→∀ ad,p.A=some ad→ad.block ≠ g
structure BkIn (g:Nat) (w:World) (x:Cs):Prop where
 blk:BkBlk w g x
 net:Roads w x.A x.n x.l
 shifts:Shifts w x.SA x.sn x.ss
 reqs:Reqs w x.B x.m x.r
 off:BkOff g x
theorem BkIn.move {g:Nat} {w w':World} {x:Cs} (h:BkIn g w x) (hs:OffSt g w w') (hb:BkBlk w' g x):BkIn g w' x :=
 ⟨hb,⟨h.net.1,Rd.off h.net.2 hs h.off.n⟩,⟨⟨h.shifts.1.1,Rd.off h.shifts.1.2 hs h.off.s⟩,fun s hm=>⟨(h.shifts.2 s hm).1,Rd.off (h.shifts.2 s hm).2 hs (h.off.r s hm)⟩⟩,⟨h.reqs.1,Rd.off h.reqs.2.1 hs h.off.q,fun p hp=>⟨(h.reqs.2.2 p hp).1,Rd.off (h.reqs.2.2 p hp).2 hs (h.off.w p hp)⟩⟩,h.off⟩
theorem BkIn.below {g:Nat} {w w':World} {x:Cs} (h:BkIn g w x) (hb:Below w.heap.size w w'):BkIn g w' x:=h.move (OffSt.below g hb) (h.blk.below hb)
theorem bkIn_new {w w':World} {x:Cs} (hN:Roads w x.A x.n x.l) (hS:Shifts w x.SA x.sn x.ss) (hQ:Reqs w x.B x.m x.r) (hb:Below w.heap.size w w') (hx:BkBlk w' w.heap.size x):BkIn w.heap.size w' x :=
 ⟨hx,Lst.below hN hb,hS.below hb,hQ.below hb,⟨fun h ad e=>Nat.ne_of_lt (Rd.lt_of hN.2 (by decide) h ad e),fun h ad e=>Nat.ne_of_lt (Rd.lt_of hS.1.2 (by decide) h ad e),fun s hs h ad e=>Nat.ne_of_lt (Rd.lt_of (hS.2 s hs).2 (by decide) h ad e),fun h ad e=>Nat.ne_of_lt (Rd.lt_of hQ.2.1 (by decide) h ad e),fun p hp h ad e=>Nat.ne_of_lt (Rd.lt_of (hQ.2.2 p hp).2 (by decide) h ad e)⟩⟩
theorem BkNew.off {B g:Nat} {x:Cs} (h:BkNew B x) (hg:g < B):BkOff g x :=
 ⟨fun h0 ad e=>Nat.ne_of_gt (Nat.lt_of_lt_of_le hg (h.n h0 ad e)),fun _ ad e=>Nat.ne_of_gt (Nat.lt_of_lt_of_le hg (h.s ad e)),fun s hs h0 ad e=>Nat.ne_of_gt (Nat.lt_of_lt_of_le hg (h.r s hs h0 ad e)),fun _ ad e=>Nat.ne_of_gt (Nat.lt_of_lt_of_le hg (h.q ad e)),fun p hp h0 ad e=>Nat.ne_of_gt (Nat.lt_of_lt_of_le hg (h.w p hp h0 ad e))⟩
theorem BookAt.stays {w w2:World} {x x':Cs} {o:Option (List Q)} {B:Nat} (h:BookAt w x x' o) (hn:BkNew B x') (hs:Stays B w w2):BookAt w2 x x' o:=by
 cases o with
 | none=>exact h
 | some r =>
  obtain ⟨h1,h2,h3,h4,h5,h6,h7⟩:=h
  exact ⟨h1,h2,h3,h4,h5.stays hn hs,h6,h7⟩
def ToldK (g:Nat) (xi x':Cs) (a:AV) (o:Option (List Q)) (w:World):Prop:=BkOff g x'∧∃ B,g < B∧∀ w'',Stays B w w''→AvAt w'' a∧BookAt w'' xi x' o
structure AskP (xi:Cs) (R:Option (List Q) × K.An × Int) (x':Cs) (a:AV) (acc:Bool) (er:Int):Prop where
 acc:acc=a.acc
 er:er=R.2.2
 an:a.an=R.2.1
 ok:AvOk a
 m:x'.m≤xi.m + 1
structure AskK (g:Nat) (xi:Cs) (R:Option (List Q) × K.An × Int) (B:Nat) (x':Cs) (a:AV) (acc:Bool) (er:Int) (w2:World):Prop where
 p:AskP xi R x' a acc er
 told:∀ w',Stays B w2 w'→ToldK g xi x' a R.1 w'
theorem ask_k (g:Nat) (x:Cs) (q:Q) (R:Option (List Q) × K.An × Int) (hR:K.ask33 x.nd x.l x.ss x.r q=R) (w:World) (hx:Ok33 w x q) (hg:g < w.heap.size) (h1:x.n≤1000000) (h2:x.sn≤1000000) (h3:∀ s ∈ x.ss,s.n≤1000000) :
  Calls Tryz.prog 33 #[.agg #[.int .i64 x.nd,.slice x.A x.n x.c,.slice x.SA x.sn x.sc,.slice x.B x.m x.d],.agg #[.int .i64 q.node,.int .i64 q.room,.int .i64 q.kilos,.int .i64 q.service,.int .i64 q.frm,.int .i64 q.by_,.slice q.A q.n q.c]] w fun e w'=>(∃ (x':Cs) (a:AV) (acc:Bool) (er:Int),e=.returned (.tuple #[.agg #[.int .i64 x'.nd,.slice x'.A x'.n x'.c,.slice x'.SA x'.sn x'.sc,.slice x'.B x'.m x'.d],.agg #[.bool acc,.slice a.PA a.pn a.pc,.slice a.VA a.vn a.vc,.slice a.RA a.rn a.rc],.int .i64 er])∧AskK g x R w.heap.size x' a acc er w')∧Below w.heap.size w w':=by
 subst hR
 refine (ask_any x q w hx h1 h2 h3).mono ?_
 rintro e w' ⟨⟨x',a,rfl,g1,g2,g3,g4,g5,g6⟩,hb⟩
 refine ⟨⟨x',a,a.acc,_,rfl,⟨⟨rfl,rfl,g3,g2,?_⟩,fun w2 hs=>⟨g6.off hg,_,hg,fun w'' hs2=>⟨g1.stays g5 (hs.trans hs2),g4.stays g6 (hs.trans hs2)⟩⟩⟩⟩,hb⟩
 rcases K.ask_cases (nd:=x.nd) (l:=x.l) (ss:=x.ss) (r:=x.r) (x:=q) with ⟨e,-,k2⟩ | ⟨-,⟨-,k5⟩ | ⟨-,v,-,k6⟩⟩
 ·rw [k2] at g4
  have:x'.m=0:=by rw [show x'=Cs.zero from g4];rfl
  omega
 ·rw [k5] at g4
  obtain ⟨-,-,-,-,j5,-,j7⟩:=g4
  have:=congrArg List.length j7
  rw [List.length_map,List.length_map,List.length_append,List.length_singleton,←j5.reqs.1,←hx.cs.reqs.1] at this
  omega
 ·rw [k6] at g4
  obtain ⟨-,-,-,-,j5,-,j7⟩:=g4
  have:=congrArg List.length j7
  rw [List.length_map,List.length_map,←j5.reqs.1,←hx.cs.reqs.1] at this
  omega
theorem lt_bel {g B:Nat} {w w':World} (h:g < w.heap.size) (hb:Below B w w'):g < w'.heap.size:=Nat.lt_of_lt_of_le h hb.size
theorem flat_le59 (k:Nat):∀ l:List TV,(∀ t ∈ l,t.t.stops.length≤k)→(l.flatMap fun y=>y.t.stops).length≤k * l.length
 | [],_=>Nat.zero_le _
 | t :: l,h=>by
  rw [List.flatMap_cons,List.length_append,List.length_cons]
  have h1:=h t (List.mem_cons_self ..)
  have h2:=flat_le59 k l fun u hu=>h u (List.mem_cons_of_mem _ hu)
  rw [Nat.mul_add]
  omega
set_option maxRecDepth 100000 in
set_option maxHeartbeats 16000000 in
theorem wholeServes_any (x:Cs) (LA:Option Addr) (ln lc:Nat) (ls:List TV) (w:World) (hx:CsAt w x) (hm8:x.m≤8) (hLT:Tours w LA ln ls) (hLF:FewT ln ls) (h0:K.checks x.nd x.l x.ss x.r (ls.map TV.pr)=0) :
  Calls Tryz.prog 59 #[.agg #[.int .i64 x.nd,.slice x.A x.n x.c],.slice x.SA x.sn x.sc,.slice x.B x.m x.d,.slice LA ln lc] w fun e w'=>e=.returned (.bool true)∧Below w.heap.size w w':=by
 have HSN:=Lib.hid hx.shifts.1.1
 have HRN:=Lib.hid hx.reqs.1
 have HALL:=Lib.hid (K.checks_all h0)
 have HFEW:=Lib.hid (K.checks_few h0)
 clear h0
 obtain ⟨w8,hw8⟩:∃ w8:World,w8=w.alloc (.cells #[.int .i64 x.nd,.slice x.A x.n x.c] 24):=⟨_,rfl⟩
 have hP8:Net w8 w.heap.size x.nd x.A x.n x.c:=by rw [hw8];exact Net.new w x.nd x.A x.n x.c
 have hb80:Below w.heap.size w w8:=by rw [hw8];exact (Below.refl _ _).alloc (Nat.le_refl _) _
 have hLT8:=hLT.below hb80
 go_enter Tryz.func59,Tryz.ntmps59
 obtain ⟨h,hh⟩:∃ h,h=w8.heap.size:=⟨_,rfl⟩
 obtain ⟨w9,hw9⟩:∃ w9:World,w9=w8.alloc (.cells (intCells (List.replicate x.m 0)).toArray 3):=⟨_,rfl⟩
 have b89:Below w8.heap.size w8 w9:=by rw [hw9];exact (Below.refl _ _).alloc (Nat.le_refl _) _
 have hH9:IBlk w9 h (K.cnt x.m []):=by rw [hw9,hh,K.cnt_nil];exact heap_alloc_new _ _
 have hmk:=make_ints x.m (by omega)
 go_wp2_with fail
 have hhz:h=w.heap.size + 1:=by rw [hh,hw8,World.size_alloc]
 rw [←hw8,←hw9,←hhz]
 have hhs:w8.heap.size≤h:=by rw [hh];exact Nat.le_refl _
 clear hw9 hh hmk hw8 hhz
 go_loopw [10] (fun v10 wi=>∃ i:Nat,v10=.int .i64 i∧i≤ln∧IBlk wi h (K.cnt x.m ((ls.take i).flatMap fun y=>y.t.stops))∧Below w8.heap.size w8 wi) (fun v10 _=>ln - (intOf v10).toNat)
 case atStart=>exact ⟨0,rfl,Nat.zero_le _,hH9,b89⟩
 case round =>
  clear hH9 b89
  obtain ⟨i,rfl,hi,hHi,hbi⟩:=hrel
  by_cases hlti:i < ln
  ·obtain ⟨adl,y,hLA,hy,⟨hI1,hI2⟩,c0,c1,c2,c3⟩:=(hLT8.below hbi).at_ hlti
   obtain ⟨hty1,hty2⟩:=hLF.2 y (List.mem_of_getElem? hy)
   obtain ⟨hs0,hne,hbd,sS,hsS,hck,hR⟩:=HALL.out.2.1 y.pr (List.mem_map_of_mem (List.mem_of_getElem? hy))
   obtain ⟨s,hs⟩:∃ s:Nat,y.sh=(s:Int):=⟨y.sh.toNat,by have:0≤y.sh:=hs0;omega⟩
   have hsS':x.ss[s]? = some sS:=by rw [show s=y.pr.1.toNat by show s=y.sh.toNat;omega];exact hsS
   have hsn:s < x.sn:=by have:=(List.getElem?_eq_some_iff.1 hsS').1;have:=HSN.out;omega
   obtain ⟨ads,s9,hSA,hs9,hIS,s0,s1,s2,s3,s4,s5⟩:=(hx.below (bel hb80 hbi)).shifts.at_ hsn
   rw [hsS'] at hs9
   injection hs9 with hs9
   subst hs9
   have HY:=Lib.hid hy
   have HR:=Lib.hid hR
   have HCK:=Lib.hid hck
   have HBD:=Lib.hid hbd
   have hsm:=List.mem_of_getElem? hsS'
   have hyl:y.n=y.t.stops.length:=hI1.1
   have hyl':y.n'=y.t.times.length:=hI2.1
   have hnn:y.n=y.n':=by have h9:y.t.times.length=y.t.stops.length:=hR.len;omega
   have hn0:0 < y.n:=by rw [hyl];exact List.length_pos_iff.2 hne
   have HYL:=Lib.hid hyl
   have HYL':=Lib.hid hyl'
   have HNE:=Lib.hid hne
   have HYtippdjmpkafifaaGreat:=Lib.hid hnn
   have HSH:=Lib.hid hs
   have HS0:=Lib.hid hs0
   have i0:(0:Int)≤(i:Int):=by omega
   have i1:(i:Int) < (ln:Int):=by omega
   have hdi:decide ((i:Int) < (ln:Int))=true:=by simp;omega
   have hdi2:decide (i < ln)=true:=by simp;omega
   have a1:decide ((s:Int) < 0)=false:=by simp
   have a2:decide ((x.sn:Int)≤(s:Int))=false:=by simp;omega
   have a2':decide (x.sn≤s)=false:=by simp;omega
   have ks0:(0:Int)≤(s:Int):=by omega
   have ks1:(s:Int) < (x.sn:Int):=by omega
   have a3:((y.n':Int) != (y.n:Int))=false:=by rw [hnn];simp
   have a3':decide ((y.n':Int)=(y.n:Int))=true:=by rw [hnn];simp
   have mx0:IntKind.i64.wrap ((x.sn:Int) - 1)=(x.sn:Int) - 1:=IntWalk.i64_in _ (by have:=hx.b3;omega)
   have mx1:(if (x.sn:Int) - 1 < (s:Int) then (x.sn:Int) - 1 else (s:Int))=(s:Int):=by rw [if_neg (by omega)]
   have mx2:((x.sn:Int) - 1 < (s:Int))=False:=eq_false (by omega)
   have mx3:(0 < (s:Int))=(0 < s):=by simp
   have mx4:(if 0 < (s:Int) then (s:Int) else 0)=(s:Int):=by split <;> omega
   have mx5:(if 0 < s then (s:Int) else 0)=(s:Int):=by split <;> omega
   obtain ⟨g1,hg1⟩:∃ g1,g1=wr.heap.size:=⟨_,rfl⟩
   obtain ⟨wa,hwa⟩:∃ wa:World,wa=wr.alloc (.cells #[.int .i64 s,.slice y.A y.n y.c,.slice y.A' y.n' y.c',.int .i64 y.t.end_] 80):=⟨_,rfl⟩
   have ba:Below wr.heap.size wr wa:=by rw [hwa];exact (Below.refl _ _).alloc (Nat.le_refl _) _
   have hTa:TBlk wa g1 s (.slice y.A y.n y.c) (.slice y.A' y.n' y.c') y.t.end_:=by rw [hwa,hg1];exact heap_alloc_new _ _
   rw [hLA,hSA]
   have HIL:=Lib.hid hlti
   clear hlti hsS hsS' hs0 hck hR hbd hyl hyl' hne hs hnn
   rw [HSH.out] at c0
   go_upto_region 6 with fail
   rw [←hwa,←hg1]
   clear hwa hg1 c0 c1 c2 c3 hdi hdi2
   have hHa:=hHi.below ba hHi.lt
   have hb_:=bel hbi ba
   have hPa:=hP8.below hb_
   have hIa1:=hI1.below ba
   have hIa2:=hI2.below ba
   have hxa:=hx.below (bel hb80 hb_)
   have p0:=Beh.cell hPa.c0
   have p1:=Beh.cell hPa.c1
   obtain ⟨t0,t1,t2,t3⟩:=hTa.cells
   have q0:=Beh.cell t0
   have q1:=Beh.cell t1
   have q2:=Beh.cell t2
   have q3:=Beh.cell t3
   have d0:=(ba.cell (cell_lt s0)).trans s0
   have d1:=(ba.cell (cell_lt s1)).trans s1
   have d2:=(ba.cell (cell_lt s2)).trans s2
   have d3:=(ba.cell (cell_lt s3)).trans s3
   have d4:=(ba.cell (cell_lt s4)).trans s4
   have d5:=(ba.cell (cell_lt s5)).trans s5
   have r0:=Beh.cell d0
   have r1:=Beh.cell d1
   have r2:=Beh.cell d2
   have r3:=Beh.cell d3
   have r4:=Beh.cell d4
   have r5:=Beh.cell d5
   have CK:∀ i:Beh wa,Calls Tryz.prog 84 #[.agg #[.int .i64 x.nd,.slice x.A x.n x.c],.agg #[.int .i64 sS.day,.int .i64 sS.depot,.int .i64 sS.start,.int .i64 sS.end_,.int .i64 sS.tare,.slice sS.A sS.n sS.c],.slice x.B x.m x.d,.agg #[.int .i64 s,.slice y.A y.n y.c,.slice y.A' y.n' y.c',.int .i64 y.t.end_]] i.val fun e w'=>e=.returned (.bool true)∧Below i.val.heap.size i.val w':=fun i=>by
    have h9:=tcheck_any (x.one sS) y i.val ((hxa.below i.property).case hsm) ⟨hIa1.below i.property,hIa2.below i.property,by omega,hty2⟩ hty1
    rw [show K.check (x.one sS).nd (x.one sS).l (x.one sS).s (x.one sS).r y.t=true from HCK.out,HSH.out] at h9
    exact h9
   clear s0 s1 s2 s3 s4 s5 hHi hI1 hI2
   refine reg_beh (by kernel_rfl) (by kernel_rfl) ?_
   repeat (go_big_quiet_step (((go_at_call 84;exact Beh.calls (CK _)))))
   refine wpQuiet_nil ?_
   rintro wd ⟨⟨wd,bd⟩,rfl⟩
   have hTd:=hTa.below bd
   have hHd:=hHa.below bd hHa.lt
   have hbd_:=bel hb_ bd
   have hId1:=hIa1.below bd
   obtain ⟨g2,hg2⟩:∃ g2,g2=wd.heap.size:=⟨_,rfl⟩
   obtain ⟨wb,hwb⟩:∃ wb:World,wb=wd.alloc (.cells #[.int .i64 sS.day,.int .i64 sS.depot,.int .i64 sS.start,.int .i64 sS.end_,.int .i64 sS.tare,.slice sS.A sS.n sS.c] 63):=⟨_,rfl⟩
   have bb:Below wd.heap.size wd wb:=by rw [hwb];exact (Below.refl _ _).alloc (Nat.le_refl _) _
   have hTb:=hTd.below bb
   have hSb:Shf wb g2 sS:=by rw [hwb,hg2];exact Shf.new _ _
   have hHb:=hHd.below bb hHd.lt
   have hb_2:=bel hbd_ bb
   have hIb1:=hId1.below bb
   have hxb:=hx.below (bel hb80 hb_2)
   have e1:decide (sS.end_ < y.t.end_)=false:=by have h9:y.t.end_≤sS.end_:=HR.out.end_;simp;omega
   have f0:=(bd.cell (cell_lt d0)).trans d0
   have f1:=(bd.cell (cell_lt d1)).trans d1
   have f2:=(bd.cell (cell_lt d2)).trans d2
   have f3:=(bd.cell (cell_lt d3)).trans d3
   have f4:=(bd.cell (cell_lt d4)).trans d4
   have f5:=(bd.cell (cell_lt d5)).trans d5
   have CF:=fits_any sS x.B x.m x.d x.r y.A y.n y.c y.t.stops wb (hxb.shifts.2 sS hsm) (hx.b2 sS hsm) hxb.reqs hx.b4 hx.b5 hIb1 (by omega)
   rw [show T.fits sS x.r y.t.stops=true from HR.out.fits HNE.out] at CF
   clear p0 p1 q0 q1 q2 q3 r0 r1 r2 r3 r4 r5 CK t0 t1 t2 t3 d0 d1 d2 d3 d4 d5 mx0 mx1 mx2 mx3 mx4 mx5 a1 a2 a2' a3 a3' hTa hHa hPa hIa1 hIa2 hxa
   obtain ⟨t0,t1,t2,t3⟩:=hTd.cells
   have u0:=(bb.cell (cell_lt t0)).trans t0
   have u1:=(bb.cell (cell_lt t1)).trans t1
   have u2:=(bb.cell (cell_lt t2)).trans t2
   have u3:=(bb.cell (cell_lt t3)).trans t3
   obtain ⟨s0,s1,s2,s3,s4,s5⟩:=hSb.cells
   rw [hwb,hg2] at s0 s1 s2 s3 s4 s5
   rw [hwb] at u0 u1 u2 u3
   go_wp2_with fail
   rw [←hwb]
   refine CF.mono ?_
   rintro e wc ⟨rfl,bc⟩
   clear CF u0 u1 u2 u3 s0 s1 s2 s3 s4 s5 t0 t1 t2 t3 f0 f1 f2 f3 f4 f5
   rw [←hg2]
   clear hwb hg2
   have hTc:=hTb.below bc
   have hSc:=hSb.below bc
   have hb_:=hb_2
   have hHc:=hHb.below bc hHb.lt
   have hbc:=bel hb_ bc
   have hg12:h ≠ g1∧h ≠ g2:=by
    have h1:=hTb
    have h2:=hSb
    refine ⟨fun e=>?_,fun e=>?_⟩
    ·have h3:=hHb
     unfold IBlk at h3
     unfold TBlk at h1
     rw [e,h1] at h3
     injection h3 with h3
     injection h3 with h3 h4 h5
     cases h4
    ·have h3:=hHb
     unfold IBlk at h3
     unfold Shf at h2
     rw [e,h2] at h3
     injection h3 with h3
     injection h3 with h3 h4 h5
     cases h4
   obtain ⟨s0,s1,s2,s3,s4,s5⟩:=hSc.cells
   obtain ⟨V,hV⟩:∃ V,V=(ls.take i).flatMap fun y=>y.t.stops:=⟨_,rfl⟩
   rw [←hV] at hHc
   have HV:=Lib.hid hV
   clear hV
   obtain ⟨t0,t1,t2,t3⟩:=hTc.cells
   go_wp2_with fail
   clear t0 t1 t2 t3 s0 s1 s2 s3 s4 s5 e1 hTb hSb hHb hIb1 hxb bc hTd hHd hId1 bd bb ba
   go_loopw [13] (fun v13 wj=>∃ n:Nat,v13=.int .i64 n∧n≤y.n∧IBlk wj h (K.cnt x.m (V ++ y.t.stops.take n))∧TBlk wj g1 s (.slice y.A y.n y.c) (.slice y.A' y.n' y.c') y.t.end_∧Shf wj g2 sS∧Below w8.heap.size w8 wj) (fun v13 _=>y.n - (intOf v13).toNat)
   case atStart=>exact ⟨0,rfl,Nat.zero_le _,by rw [List.take_zero,List.append_nil];exact hHc,hTc,hSc,hbc⟩
   case round =>
    clear hHc hTc hSc hbc
    obtain ⟨n,rfl,hn,hHj,hTj,hSj,hbj⟩:=hrel
    by_cases hltn:n < y.n
    rotate_left
    ·have hdn:decide ((n:Int) < (y.n:Int))=false:=by simp;omega
     have hdn2:decide (n < y.n)=false:=by simp;omega
     have hX:IBlk wr h (K.cnt x.m ((ls.take (i + 1)).flatMap fun y=>y.t.stops)):=by
      rw [take_snoc HY.out,List.flatMap_append,←HV.out,List.flatMap_singleton]
      rw [List.take_of_length_le (by have:=HYL.out;omega)] at hHj
      exact hHj
     have HX:=Lib.hid hX
     obtain ⟨t0,t1,t2,t3⟩:=hTj.cells
     clear hltn hX hHj
     have hil:=HIL.out
     have h8:=hLF.1
     go_wp2_with fail
     go_roundw
     case rel=>(go_light;exact ⟨i + 1,by go_num,hil,HX.out,hbj⟩)
     case measure=>(go_light;simp [intOf];omega)
    have hym:=List.mem_of_getElem? HY.out
    obtain ⟨adz,z,hA,hz,cz⟩:=((hLT8.2 y hym).1.below hbj).at_ hltn
    obtain ⟨adm,m,hA2,hm,cm⟩:=((hLT8.2 y hym).2.below hbj).at_ (show n < y.n' by have:=HYtippdjmpkafifaaGreat.out;omega)
    obtain ⟨hz0,hz1⟩:=HBD.out z (List.mem_of_getElem? hz)
    obtain ⟨zn,hzn⟩:∃ zn:Nat,z=(zn:Int):=⟨z.toNat,by omega⟩
    subst hzn
    have hzm:zn < x.m:=by have:=HRN.out;omega
    obtain ⟨adq,q,hB,hq,hW,c0,c1,c2,c3,c4,c5,c6⟩:=(hx.below (bel hb80 hbj)).reqs.at_ hzm
    have hreq:K.req x.r (zn:Int)=q:=K.req_get hq
    obtain ⟨f1,f2,f3,f4,f5⟩:=HR.out.at_ n (zn:Int) m hz hm
    rw [hreq] at f1 f2 f3 f4
    have hqm:=List.mem_of_getElem? hq
    have hqr:=((K.pcheck_ok HALL.out.1).2.2.2.1 q hqm).1
    have hsv:0≤q.service∧q.service≤1000000:=by simp [T.right,T.btw] at hqr;omega
    obtain ⟨-,-,st0,st1,st2⟩:=K.check_parts ((K.pcheck_ok HALL.out.1).2.2.1 sS hsm).1
    have hen:y.t.end_≤sS.end_:=HR.out.end_
    have f4':m + q.service≤y.t.end_:=f4
    have b1:decide ((zn:Int) < 0)=false:=by simp
    have b2:decide ((x.m:Int)≤(zn:Int))=false:=by simp;omega
    have b2':decide (x.m≤zn)=false:=by simp;omega
    have d1:decide (sS.day < q.frm)=false:=by simp;omega
    have d2:decide (q.by_ < sS.day)=false:=by simp;omega
    have d3:IntKind.i64.wrap (m + q.service)=m + q.service:=IntWalk.i64_in _ (by omega)
    have d4:decide (y.t.end_ < m + q.service)=false:=by simp;omega
    have hdn:decide ((n:Int) < (y.n:Int))=true:=by simp;omega
    have hdn2:decide (n < y.n)=true:=by simp;omega
    have kn0:(0:Int)≤(n:Int):=by omega
    have kn1:(n:Int) < (y.n:Int):=by omega
    have kn2:(n:Int) < (y.n':Int):=by have:=HYtippdjmpkafifaaGreat.out;omega
    have kz0:(0:Int)≤(zn:Int):=by omega
    have kz1:(zn:Int) < (x.m:Int):=by omega
    obtain ⟨c,hc⟩:∃ c:Nat,c=(V ++ y.t.stops.take n).count (zn:Int):=⟨_,rfl⟩
    have hcl:c≤1000:=by
     have h1:(V ++ y.t.stops.take n).length≤1000:=by
      have h2:=flat_le59 6 (ls.take i) (fun t ht=>(HFEW.out.2 t.pr (List.mem_map_of_mem (List.mem_of_mem_take ht))).1)
      have h3:=HFEW.out.1
      have h4:=(HFEW.out.2 y.pr (List.mem_map_of_mem hym)).1
      have h5:y.pr.2.stops=y.t.stops:=rfl
      rw [h5] at h4
      rw [List.length_map] at h3
      rw [←HV.out] at h2
      rw [List.length_append,List.length_take]
      rw [List.length_take] at h2
      have h6:min i ls.length≤4:=by omega
      have h7:6 * min i ls.length≤24:=by omega
      omega
     rw [hc]
     exact Nat.le_trans List.count_le_length h1
    have hcell:=hHj.cell (K.cnt_at (V ++ y.t.stops.take n) hzm)
    rw [←hc] at hcell
    have HCNT:=Lib.hid hc
    have dw:IntKind.i64.wrap ((c:Int) + 1)=(c:Int) + 1:=IntWalk.i64_in _ (by omega)
    have HZ:=Lib.hid hz
    obtain ⟨g3,hg3⟩:∃ g3,g3=wr.heap.size:=⟨_,rfl⟩
    obtain ⟨wd,hwd⟩:∃ wd:World,wd=wr.alloc (.cells #[.int .i64 q.node,.int .i64 q.room,.int .i64 q.kilos,.int .i64 q.service,.int .i64 q.frm,.int .i64 q.by_,.slice q.A q.n q.c] 47):=⟨_,rfl⟩
    have bd:Below wr.heap.size wr wd:=by rw [hwd];exact (Below.refl _ _).alloc (Nat.le_refl _) _
    have hQd:wd.heap[g3]? = some (.cells #[.int .i64 q.node,.int .i64 q.room,.int .i64 q.kilos,.int .i64 q.service,.int .i64 q.frm,.int .i64 q.by_,.slice q.A q.n q.c] 47 (0,0)):=by rw [hwd,hg3];exact heap_alloc_new _ _
    have hHd:=hHj.below bd hHj.lt
    have hTd:=hTj.below bd
    have hSd:=hSj.below bd
    have hbd2:=bel hbj bd
    have czd:=(bd.cell (cell_lt cz)).trans cz
    have cmd:=(bd.cell (cell_lt cm)).trans cm
    obtain ⟨t0,t1,t2,t3⟩:=hTj.cells
    obtain ⟨s0,s1,s2,s3,s4,s5⟩:=hSj.cells
    rw [hA] at t1
    have hWd:=hW.below bd
    clear hc hz hz0 hz1 hreq f1 f2 f4 f4' f5 hq hqr st0 st1 st2 hen hltn hHj hTj hSj hm hcell
    rw [hB]
    go_upto_region 15 with fail
    rw [←hwd,←hg3]
    clear hwd hg3 bd t0 t1 t2 t3 s0 s1 s2 s3 s4 s5 c0 c1 c2 c3 c4 c5 c6 b1 b2 b2' hdn hdn2 kn0 kz0 kz1 cz cm hW
    obtain ⟨t0,t1,t2,t3⟩:=hTd.cells
    rw [hA2] at t2
    have k3:=blk_cell hQd 3 _ rfl
    have k6:=blk_cell hQd 6 _ rfl
    have q2:=Beh.cell t2
    have q3:=Beh.cell k3
    have q6:=Beh.cell k6
    have u0:=Beh.cell cmd
    have kn0:(0:Int)≤(n:Int):=by omega
    have CT:∀ i:Beh wd,Calls Tryz.prog 122 #[.slice q.A q.n q.c,.int .i64 m,.int .i64 q.service] i.val fun e w'=>e=.returned (.tuple #[.int .i64 m,.bool true])∧Below i.val.heap.size i.val w':=fun i=>by
     have h9:=fit_any q.A q.n q.c q.l m q.service i.val (hWd.below i.property) (hx.b5 q hqm)
     rw [f3] at h9
     exact h9
    refine reg_beh (by kernel_rfl) (by kernel_rfl) ?_
    repeat (go_big_quiet_step ((go_at_call 122;exact Beh.calls (CT _))))
    refine wpQuiet_nil ?_
    rintro we ⟨⟨we,be⟩,rfl⟩
    have hQe:=blk_below be hQd
    have hHe:=hHd.below be hHd.lt
    have hTe:=hTd.below be
    have hSe:=hSd.below be
    have hbe:=bel hbd2 be
    have cze:=(be.cell (cell_lt czd)).trans czd
    have cme:=(be.cell (cell_lt cmd)).trans cmd
    clear t0 t1 t2 t3 k3 k6 q2 q3 q6 u0 CT hQd hHd hTd hSd hbd2 czd cmd be hWd f3
    obtain ⟨t0,t1,t2,t3⟩:=hTe.cells
    rw [hA2] at t2
    rw [hA] at t1
    obtain ⟨s0,s1,s2,s3,s4,s5⟩:=hSe.cells
    have k3:=blk_cell hQe 3 _ rfl
    have k4:=blk_cell hQe 4 _ rfl
    have k5:=blk_cell hQe 5 _ rfl
    have hcell:=hHe.cell (K.cnt_at (V ++ y.t.stops.take n) hzm)
    rw [←HCNT.out] at hcell
    have hfree:=hHe.free zn
    have kn1:(n:Int) < (y.n:Int):=by omega
    have kz0:(0:Int)≤(zn:Int):=by omega
    have kz1:(zn:Int) < (x.m:Int):=by omega
    have hX:IBlk (we.setCell ⟨h,zn,none⟩ (.int .i64 ((c:Int) + 1))) h (K.cnt x.m (V ++ y.t.stops.take (n + 1))):=by
     rw [take_snoc HZ.out,←List.append_assoc,K.cnt_snoc,←HCNT.out]
     exact hHe.set zn _
    have hTX:TBlk (we.setCell ⟨h,zn,none⟩ (.int .i64 ((c:Int) + 1))) g1 s (.slice y.A y.n y.c) (.slice y.A' y.n' y.c') y.t.end_:=blk_other hTe _ hg12.1.symm
    have hSX:Shf (we.setCell ⟨h,zn,none⟩ (.int .i64 ((c:Int) + 1))) g2 sS:=blk_other hSe _ hg12.2.symm
    have hbX:Below w8.heap.size w8 (we.setCell ⟨h,zn,none⟩ (.int .i64 ((c:Int) + 1))):=hbe.setCell (p:=⟨h,zn,none⟩) hhs _
    clear hHe hTe hSe hbe
    go_wp2_with fail
    go_roundw
    case rel=>(go_light;exact ⟨n + 1,by go_num,by omega,hX,hTX,hSX,hbX⟩)
    case measure=>(go_light;simp [intOf];omega)
  ·have hdi:decide ((i:Int) < (ln:Int))=false:=by simp;omega
   have hdi2:decide (i < ln)=false:=by simp;omega
   have hX:IBlk wr h (List.replicate x.m 1):=by
    rw [List.take_of_length_le (by rw [←hLT8.1.1];omega)] at hHi
    have h1:=HALL.out.2.2.1
    rw [List.flatMap_map,←HRN.out] at h1
    rw [←h1]
    exact hHi
   clear hlti hHi
   go_wp2_with fail
   clear hdi hdi2
   go_loopw [17] (fun v17 wj=>∃ n:Nat,v17=.int .i64 n∧n≤x.m∧IBlk wj h (List.replicate x.m 1)∧Below w8.heap.size w8 wj) (fun v17 _=>x.m - (intOf v17).toNat)
   case atStart=>exact ⟨0,rfl,Nat.zero_le _,hX,hbi⟩
   case round =>
    clear hX hbi
    obtain ⟨n,rfl,hn,hHj,hbj⟩:=hrel
    by_cases hltn:n < x.m
    ·have hcell:=hHj.cell (k:=n) (x:=1) (by rw [List.getElem?_replicate,if_pos hltn])
     have kn0:(0:Int)≤(n:Int):=by omega
     have kn1:(n:Int) < (x.m:Int):=by omega
     go_wp2_with fail
     go_roundw
     case rel=>(go_light;exact ⟨n + 1,by go_num,by omega,hHj,hbj⟩)
     case measure=>(go_light;simp [intOf];omega)
    ·have hdn:decide ((n:Int) < (x.m:Int))=false:=by simp;omega
     have hdn2:decide (n < x.m)=false:=by simp;omega
     clear hltn
     go_wp2_with fail
     go_ret
     exact ⟨rfl,bel hb80 hbj⟩
namespace K
structure Kp where
 kept:List Int
 served:List Q
 tours:List (Int × Tr)
 reasons:List (List (Int × List Int × List Lb))
def Kp.zero:Kp:=⟨[],[],[],[]⟩
section
variable {nd : Int} {l : List Ro} {ss rest : List S} {r : List Q} {lost kept : List Int}
structure KpOk (nd:Int) (l:List Ro) (rest:List S) (r0:List Q) (i:Nat) (k:Kp):Prop where
 served:k.served=k.kept.map (req r0)
 asc:k.kept.Pairwise (· < ·)
 lt:∀ j ∈ k.kept,0≤j∧j < (i:Int)
 len:k.kept.length + k.reasons.length=i
 tours:checks nd l rest k.served k.tours=0
end
end K
theorem own_base {w:World} {base base':Nat} {e:TypeId} {size n:Nat} {v:Value} {xs:List Value} (h:w.ownsRow base' e size v n xs) (hb:base≤base'):w.ownsRow base e size v n xs:=by
 obtain ⟨hl,h1 | ⟨g,cap,cur,e1,e2,e3⟩⟩:=h
 ·exact ⟨hl,.inl h1⟩
 ·exact ⟨hl,.inr ⟨g,cap,cur,e1,Nat.le_trans hb e2,e3⟩⟩
theorem rd_lit {w:World} {g:Nat} {q:Q} (h:w.heap[g]? = some (.cells #[.int .i64 q.node,.int .i64 q.room,.int .i64 q.kilos,.int .i64 q.service,.int .i64 q.frm,.int .i64 q.by_,.slice q.A q.n q.c] 47 (0,0))):Rd w 7 (some ⟨g,0,none⟩) 1 q.cells:=Rd.of_block h 7 1 rfl
theorem step_append_rdg {P:Program} {w:World} {ops:Array Oper} {o:Oper} {a:Act} {K:Act→World→Prop} {Q:Exit→Act→World→Prop} {E:Prop} (hw:Region.wanted o (yielded ops a.tmps)=true) (s x:Operand) (t:TypeId)
  (ho:o.op=.call { callee:=.builtin .append,args:=#[s,x],argTypes:=#[t,t] })
  (base:Nat) (e:TypeId) (i:TypeInfo) (z:Value) (size bytes:Nat) (ht:P.underlying t=some (.slice e)) (hi:P.info? e=some i) (hz:i.zero=some z)
  (hsize:i.size=size) (hby:i.bytes=bytes) (hzs:z.cells.size=size) (hsz:0 < size)
  (v:Value) (n:Nat) (xs:List Value) (hs:a.eval s=v) (hown:w.ownsRow base e size v n xs)
  (A:Option Addr) (m c:Nat) (news:List Value) (hx:a.eval x=.slice A m c) (hr:Rd w size A m news) (h1:∀ u ∈ news,u.oneCell'=true)
  (h63:n + m≤maxLen) (hbytes:(n + m) * bytes≤140737488355328) (hbase:base≤w.heap.size)
  (h:∀ v' w',w'.ownsRow base e size v' (n + m) (xs ++ news)→w.grownBy w' v.ownBlock→(v'.ownBlock=v.ownBlock∨v'.ownBlock=some w.heap.size)→K (a.put o.dst v') w') :
  if Region.wanted o (yielded ops a.tmps)=true then Oper.wp P o a w K Q else E:=by
 rw [if_pos hw]
 obtain ⟨v',w',hrun,h2,h3,h4⟩:=run_append_rd (P:=P) w base t o.type e i z size bytes ht hi hz hsize hby hzs hsz v n xs hown A m c news hr h1 h63 hbytes hbase
 unfold Oper.wp execOp
 simp only [ho,resolve,invoke,builtin,Sem.run_bind,Sem.run_pure,Result.andThen_ok,List.map_toArray,List.map_cons,List.map_nil,hs,hx,hrun]
 exact h v' w' h2 h3 h4
theorem reqs_snoc58 {w:World} {A:Option Addr} {L:List Q} {q:Q} (h:Rd w 7 A (L.length + 1) (L.flatMap Q.cells ++ q.cells)) (hL:∀ p ∈ L,Wins w p.A p.n p.l) (hq:Wins w q.A q.n q.l):Reqs w A (L.length + 1) (L ++ [q]) :=
 ⟨by rw [List.length_append];rfl,by rw [reqCells_flat,List.flatMap_append,List.flatMap_singleton];exact h,fun p hp=>by
  rcases List.mem_append.1 hp with hp | hp
  ·exact hL p hp
  ·rw [List.mem_singleton.1 hp];exact hq⟩
set_option maxRecDepth 100000 in
set_option maxHeartbeats 32000000 in
theorem answer58_any (x:Cs) (q:Q) (a:AV) (w:World) (hx:Ok33 w x q) (ha:AvAt w a) (hao:AvOk a) (hm6:x.m < 6) (hfit:K.fits33 x.nd q=true) (hck:K.check33 x.nd x.l x.ss x.r q a.an=true) :
  Calls Tryz.prog 58 #[.agg #[.int .i64 x.nd,.slice x.A x.n x.c,.slice x.SA x.sn x.sc,.slice x.B x.m x.d],.agg #[.int .i64 q.node,.int .i64 q.room,.int .i64 q.kilos,.int .i64 q.service,.int .i64 q.frm,.int .i64 q.by_,.slice q.A q.n q.c],.agg #[.bool a.acc,.slice a.PA a.pn a.pc,.slice a.VA a.vn a.vc,.slice a.RA a.rn a.rc]] w fun e w'=>e=.returned (.bool (K.check33 x.nd x.l x.ss x.r q a.an))∧Below w.heap.size w w':=by
 obtain ⟨w0,hw0⟩:∃ w0:World,w0=w.alloc (.cells #[.int .i64 x.nd,.slice x.A x.n x.c,.slice x.SA x.sn x.sc,.slice x.B x.m x.d] 44):=⟨_,rfl⟩
 have z0:w0.heap.size=w.heap.size + 1:=by rw [hw0];exact World.size_alloc _ _
 have b0:Below w.heap.size w w0:=by rw [hw0];exact (Below.refl _ _).alloc (Nat.le_refl _) _
 have hN0:BkBlk w0 w.heap.size x:=by rw [hw0];exact BkBlk.new _ _
 obtain ⟨w1,hw1⟩:∃ w1:World,w1=w0.alloc (.cells #[.int .i64 q.node,.int .i64 q.room,.int .i64 q.kilos,.int .i64 q.service,.int .i64 q.frm,.int .i64 q.by_,.slice q.A q.n q.c] 47):=⟨_,rfl⟩
 have z1:w1.heap.size=w.heap.size + 1 + 1:=by rw [hw1,World.size_alloc,z0]
 have b1:Below w0.heap.size w0 w1:=by rw [hw1];exact (Below.refl _ _).alloc (Nat.le_refl _) _
 have hB1:QBlk w1 (w.heap.size + 1) q:=by rw [hw1,←z0];exact QBlk.new _ _
 obtain ⟨w2,hw2⟩:∃ w2:World,w2=w1.alloc (.cells #[.bool a.acc,.slice a.PA a.pn a.pc,.slice a.VA a.vn a.vc,.slice a.RA a.rn a.rc] 50):=⟨_,rfl⟩
 have b2:Below w1.heap.size w1 w2:=by rw [hw2];exact (Below.refl _ _).alloc (Nat.le_refl _) _
 have hA2:w2.heap[w.heap.size + 1 + 1]? = some (.cells #[.bool a.acc,.slice a.PA a.pn a.pc,.slice a.VA a.vn a.vc,.slice a.RA a.rn a.rc] 50 (0,0)):=by rw [hw2,←z1];exact heap_alloc_new _ _
 have b12:=bel b1 b2
 have hb2:=bel b0 b12
 have HMK:=Lib.hid (show ∀ w',Below w2.heap.size w2 w'→(fun w':World=>w'.cell? ⟨w.heap.size,0,none⟩=some (.int .i64 x.nd)∧w'.cell? ⟨w.heap.size,1,none⟩=some (.slice x.A x.n x.c)∧w'.cell? ⟨w.heap.size,2,none⟩=some (.slice x.SA x.sn x.sc)∧w'.cell? ⟨w.heap.size,3,none⟩=some (.slice x.B x.m x.d)∧w'.cell? ⟨w.heap.size + 1,0,none⟩=some (.int .i64 q.node)∧w'.cell? ⟨w.heap.size + 1,1,none⟩=some (.int .i64 q.room)∧w'.cell? ⟨w.heap.size + 1,2,none⟩=some (.int .i64 q.kilos)∧w'.cell? ⟨w.heap.size + 1,3,none⟩=some (.int .i64 q.service)∧w'.cell? ⟨w.heap.size + 1,4,none⟩=some (.int .i64 q.frm)∧w'.cell? ⟨w.heap.size + 1,5,none⟩=some (.int .i64 q.by_)∧w'.cell? ⟨w.heap.size + 1,6,none⟩=some (.slice q.A q.n q.c)∧w'.cell? ⟨w.heap.size + 1 + 1,0,none⟩=some (.bool a.acc)∧w'.cell? ⟨w.heap.size + 1 + 1,1,none⟩=some (.slice a.PA a.pn a.pc)∧w'.cell? ⟨w.heap.size + 1 + 1,2,none⟩=some (.slice a.VA a.vn a.vc)∧w'.cell? ⟨w.heap.size + 1 + 1,3,none⟩=some (.slice a.RA a.rn a.rc)) w' from fun w' h=>by
  obtain ⟨a0,a1,a2,a3,a4⟩:=BQ.mk' ((hN0.below b12).below h) ((hB1.below b2).below h)
  exact ⟨a0,a1,a2,a3,a4.1,a4.2.1,a4.2.2.1,a4.2.2.2.1,a4.2.2.2.2.1,a4.2.2.2.2.2.1,a4.2.2.2.2.2.2,blk_cell (blk_below h hA2) 0 _ rfl,blk_cell (blk_below h hA2) 1 _ rfl,blk_cell (blk_below h hA2) 2 _ rfl,blk_cell (blk_below h hA2) 3 _ rfl⟩)
 have hx2:=hx.below hb2
 have ha2:=ha.below hb2
 have HRN:=Lib.hid hx.cs.reqs.1
 have HVN:=Lib.hid ha.v.1
 have HPN:=Lib.hid ha.t.1.1
 have HBN:=Lib.hid ha.b.1.1
 have hm9:=hx.m
 have hv9:=hao.fv
 have hb9:=hao.fb.1
 obtain ⟨R,hR⟩:∃ R,R=K.check33 x.nd x.l x.ss x.r q a.an:=⟨_,rfl⟩
 have HR:=Lib.hid hR
 have hck:=Lib.hid hck
 obtain ⟨p0,p1,p2,p3,c0,c1,c2,c3,c4,c5,c6,r0,r1,r2,r3⟩:=HMK.out _ (Below.refl _ _)
 rw [←hR]
 clear hR
 have HNE:=Lib.hid (show ¬ (K.fits33 x.nd q=false∨6≤x.r.length) from fun h=>h.elim (fun h=>by rw [hfit] at h;cases h) (fun h=>by have:=HRN.out;omega))
 clear hfit
 have d1:decide ((6:Int)≤(x.m:Int))=false:=by simp;omega
 have d2:decide (6≤x.m)=false:=by simp;omega
 obtain ⟨i0,hi,hz0,hz1,hz2⟩:=info_parts clone120_info
 go_enter Tryz.func58,Tryz.ntmps58
 rw [hw2,hw1,hw0] at p0 p1 p2 p3 c0 c1 c2 c3 c4 c5 c6 r0 r1 r2 r3
 cases hac:a.acc
 rotate_left
 ·rw [hac] at HMK r0 hw2
  have HRT:=Lib.hid (show R=((a.v.length + (a.bl.map BV.pr).length == 0) && (K.checks x.nd x.l x.ss (x.r ++ [q]) (a.ts.map TV.pr) == 0)) by
   rw [HR.out]
   unfold K.check33 AV.an
   rw [if_neg HNE.out,hac,if_pos rfl])
  clear hac
  have hone:=flat_one Q.cells req_one x.r
  have hl1:Rd w2 7 x.B x.m (x.r.flatMap Q.cells):=by have h:=hx2.cs.reqs.2.1;rw [reqCells_flat] at h;exact h
  have hR0:Below w2.heap.size w2 w2:=Below.refl _ _
  have hR0d:Below w2.heap.size w2 w2.drew:=hR0.drew
  have hRa:Below w2.heap.size w2 (w2.alloc (.cells #[.int .i64 q.node,.int .i64 q.room,.int .i64 q.kilos,.int .i64 q.service,.int .i64 q.frm,.int .i64 q.by_,.slice q.A q.n q.c] 47)):=(Below.refl _ _).alloc (Nat.le_refl _) _
  have hRad:Below w2.heap.size w2 (w2.alloc (.cells #[.int .i64 q.node,.int .i64 q.room,.int .i64 q.kilos,.int .i64 q.service,.int .i64 q.frm,.int .i64 q.by_,.slice q.A q.n q.c] 47)).drew:=hRa.drew
  have S0:=HMK.out _ hR0
  have S0d:=HMK.out _ hR0d
  have S0a:=HMK.out _ hRa
  have S0ad:=HMK.out _ hRad
  have hLa:(w2.alloc (.cells #[.int .i64 q.node,.int .i64 q.room,.int .i64 q.kilos,.int .i64 q.service,.int .i64 q.frm,.int .i64 q.by_,.slice q.A q.n q.c] 47)).drew.heap[w2.heap.size]? = some (.cells #[.int .i64 q.node,.int .i64 q.room,.int .i64 q.kilos,.int .i64 q.service,.int .i64 q.frm,.int .i64 q.by_,.slice q.A q.n q.c] 47 (0,0)):=heap_alloc_new w2 _
  have h63:x.m + 1≤maxLen:=by simp only [maxLen];omega
  have h47:(x.m + 1) * 72≤140737488355328:=by omega
  go_upto_region 5 with fail
  rw [←hw0,←hw1,←hw2]
  clear hw0 hw1 hw2 z0 z1 b0 b1 b2 b12 hN0 hB1 hA2 d1 d2
  clear p0 p1 p2 p3 c0 c1 c2 c3 c4 c5 c6 r0 r1 r2 r3
  go_cut [7] from 17 to 22 (fun v7 wc=>∃ A7 k7,v7=.slice A7 (x.m + 1) k7∧Rd wc 7 A7 (x.m + 1) ((x.r ++ [q]).flatMap Q.cells)∧Below w2.heap.size w2 wc)
  case first =>
   go_region_held3 (fun w':World=>w'.cell? ⟨w.heap.size,0,none⟩=some (.int .i64 x.nd)∧w'.cell? ⟨w.heap.size,1,none⟩=some (.slice x.A x.n x.c)∧w'.cell? ⟨w.heap.size,2,none⟩=some (.slice x.SA x.sn x.sc)∧w'.cell? ⟨w.heap.size,3,none⟩=some (.slice x.B x.m x.d)∧w'.cell? ⟨w.heap.size + 1,0,none⟩=some (.int .i64 q.node)∧w'.cell? ⟨w.heap.size + 1,1,none⟩=some (.int .i64 q.room)∧w'.cell? ⟨w.heap.size + 1,2,none⟩=some (.int .i64 q.kilos)∧w'.cell? ⟨w.heap.size + 1,3,none⟩=some (.int .i64 q.service)∧w'.cell? ⟨w.heap.size + 1,4,none⟩=some (.int .i64 q.frm)∧w'.cell? ⟨w.heap.size + 1,5,none⟩=some (.int .i64 q.by_)∧w'.cell? ⟨w.heap.size + 1,6,none⟩=some (.slice q.A q.n q.c)∧w'.cell? ⟨w.heap.size + 1 + 1,0,none⟩=some (.bool true)∧w'.cell? ⟨w.heap.size + 1 + 1,1,none⟩=some (.slice a.PA a.pn a.pc)∧w'.cell? ⟨w.heap.size + 1 + 1,2,none⟩=some (.slice a.VA a.vn a.vc)∧w'.cell? ⟨w.heap.size + 1 + 1,3,none⟩=some (.slice a.RA a.rn a.rc))
    (first | with_reducible exact S2 | with_reducible exact S1a | with_reducible exact S1 | with_reducible exact S0ad | with_reducible exact S0a | with_reducible exact S0d | with_reducible exact S0 | fail)
    (first
     | (go_at_call 120;(first
       | (with_reducible (refine (clone120 x.B x.m x.d _ _ (hl1.below hR0d) hone (by omega)).mono ?_;rintro e wc ⟨⟨v,rfl,hv⟩,bc⟩;have b2:=bel hR0d bc;have b2d:=hR0d.size))
       | (with_reducible (refine (clone120 x.B x.m x.d _ _ (hl1.below hRad) hone (by omega)).mono ?_;rintro e wc ⟨⟨v,rfl,hv⟩,bc⟩;have b2:=bel hRad bc;have b2d:=hRad.size;have hL:=blk_below bc hLa))
       | fail);have S1:=HMK.out _ b2;have S1a:=HMK.out _ (bel b2 ((Below.refl _ _).alloc (Nat.le_refl _) (.cells #[.int .i64 q.node,.int .i64 q.room,.int .i64 q.kilos,.int .i64 q.service,.int .i64 q.frm,.int .i64 q.by_,.slice q.A q.n q.c] 47)));have bca:Below wc.heap.size wc (wc.alloc (.cells #[.int .i64 q.node,.int .i64 q.room,.int .i64 q.kilos,.int .i64 q.service,.int .i64 q.frm,.int .i64 q.by_,.slice q.A q.n q.c] 47)):=(Below.refl _ _).alloc (Nat.le_refl _) _)
     | (have h9:=hv;clear hv;apply step_append_rd (hgd:=rfl) (s:=.tmp 19) (x:=.tmp 21) (t:=26) (ho:=rfl) (base:=w2.heap.size) (e:=47) (i:=i0) (z:=(.agg #[.int .i64 0,.int .i64 0,.int .i64 0,.int .i64 0,.int .i64 0,.int .i64 0,.slice none 0 0])) (size:=7) (bytes:=72) (ht:=Tryz.underlying26) (hi:=hi) (hz:=hz0) (hsize:=hz1) (hby:=hz2) (hzs:=rfl) (hsz:=by decide) (v:=v) (n:=x.m) (xs:=x.r.flatMap Q.cells) (hs:=rfl) (A:=some ⟨_,0,none⟩) (m:=1) (c:=1) (news:=q.cells) (hx:=rfl) (h1:=req_one q) (h63:=h63) (hbytes:=h47);rotate_right 1;(first | with_reducible exact own_base h9 b2d | with_reducible exact own_base (own_below h9 bca) b2d | fail);(first | with_reducible exact rd_lit hL | with_reducible exact rd_lit (heap_alloc_new wc _) | fail);(first | with_reducible exact b2.size | with_reducible exact (bel b2 bca).size | fail);intro v7 w7 hown7 hgr7 _;(first | (have b7:Below w2.heap.size w2 w7:=by with_reducible exact below_own2 b2 hgr7 (fun g e=>Nat.le_trans b2d ((own_in h9 g e).1))) | (have b7:Below w2.heap.size w2 w7:=by with_reducible exact below_own2 (bel b2 bca) hgr7 (fun g e=>Nat.le_trans b2d ((own_in h9 g e).1))) | fail);have S2:=HMK.out _ b7;have hown8:=hown7;have b8:=b7;obtain ⟨A7,k7,rfl,hRd7,-⟩:=own_form hown7)
     | fail)
   all_goals go_wp2_with fail
   all_goals go_meet
   all_goals exact ⟨A7,k7,rfl,by rw [List.flatMap_append,List.flatMap_singleton];exact hRd7,b8⟩
  case rest =>
  obtain ⟨A7,k7,rfl,hRd7,b7⟩:=hcut
  clear S0 S0d S0a S0ad hLa hR0 hR0d hRa hRad
  have hLb:(x.r ++ [q]).map Q.bare=(K.pick33 x.r (K.iota x.m) q).map Q.bare:=by rw [HRN.out,K.pick_iota]
  have hcs7:CsAt wc (x.with_ A7 (x.m + 1) k7 (x.r ++ [q])):=hx2.case b7 ⟨by rw [List.length_append,←HRN.out];rfl,by rw [reqCells_flat];exact hRd7,fun p hp=>by
   rcases List.mem_append.1 hp with hp | hp
   ·exact (hx2.cs.reqs.2.2 p hp).below b7
   ·rw [List.mem_singleton.1 hp];exact hx2.req.below b7⟩ hLb (by omega)
  have hb7:=bel hb2 b7
  clear hRd7 hLb hl1
  by_cases hv0:a.vn=0
  rotate_left
  ·have HX:=Lib.hid (show R=false by
    rw [HRT.out,List.length_map,←HVN.out,←HBN.out,show (a.vn + a.rn == 0)=false by simp;omega]
    rfl)
   have e1:((a.vn:Int) == 0)=false:=by simp [hv0]
   have e2:decide ((a.vn:Int)=0)=false:=by simp [hv0]
   have e3:decide (a.vn=0)=false:=by simp [hv0]
   obtain ⟨p0,p1,p2,p3,c0,c1,c2,c3,c4,c5,c6,r0,r1,r2,r3⟩:=HMK.out _ b7
   go_wp2_with fail
   go_ret
   exact ⟨by rw [HX.out];rfl,hb7⟩
  have f1:((a.vn:Int) == 0)=true:=by simp [hv0]
  have f2:decide ((a.vn:Int)=0)=true:=by simp [hv0]
  have f3:decide (a.vn=0)=true:=by simp [hv0]
  by_cases hr0:a.rn=0
  rotate_left
  ·have HX:=Lib.hid (show R=false by
    rw [HRT.out,List.length_map,←HVN.out,←HBN.out,show (a.vn + a.rn == 0)=false by simp;omega]
    rfl)
   have e1:((a.rn:Int) == 0)=false:=by simp [hr0]
   have e2:decide ((a.rn:Int)=0)=false:=by simp [hr0]
   have e3:decide (a.rn=0)=false:=by simp [hr0]
   clear hv0
   obtain ⟨p0,p1,p2,p3,c0,c1,c2,c3,c4,c5,c6,r0,r1,r2,r3⟩:=HMK.out _ b7
   go_wp2_with fail
   go_ret
   exact ⟨by rw [HX.out];rfl,hb7⟩
  have g1:((a.rn:Int) == 0)=true:=by simp [hr0]
  have g2:decide ((a.rn:Int)=0)=true:=by simp [hr0]
  have g3:decide (a.rn=0)=true:=by simp [hr0]
  obtain ⟨c9,hc9⟩:∃ c9,c9=K.checks x.nd x.l x.ss (x.r ++ [q]) (a.ts.map TV.pr):=⟨_,rfl⟩
  have HX:=Lib.hid (show R=(c9 == 0) by
   rw [HRT.out,List.length_map,←HVN.out,←HBN.out,show (a.vn + a.rn == 0)=true by simp [hv0,hr0],hc9]
   rfl)
  have CC:=checks32_any (x.with_ A7 (x.m + 1) k7 (x.r ++ [q])) a.PA a.pn a.pc a.ts wc hcs7 ((ha2.below b7).t) hao.ft
  rw [show K.checks (x.with_ A7 (x.m + 1) k7 (x.r ++ [q])).nd (x.with_ A7 (x.m + 1) k7 (x.r ++ [q])).l (x.with_ A7 (x.m + 1) k7 (x.r ++ [q])).ss (x.with_ A7 (x.m + 1) k7 (x.r ++ [q])).r (a.ts.map TV.pr)=c9 from hc9.symm] at CC
  clear hc9 hv0 hr0
  obtain ⟨p0,p1,p2,p3,c0,c1,c2,c3,c4,c5,c6,r0,r1,r2,r3⟩:=HMK.out _ b7
  go_wp2_with fail
  refine CC.mono ?_
  rintro e w8 ⟨rfl,b8⟩
  go_wp2_with fail
  go_ret
  exact ⟨by rw [HX.out];rfl,bel hb7 b8⟩
 ·rw [hac] at HMK r0 hw2
  have HRT:=Lib.hid (show R=(K.asc33 x.r.length (-1) a.v && (((a.ts.map TV.pr).length == 0) && K.refutes x.nd x.l x.ss (K.pick33 x.r a.v q) (a.bl.map BV.pr))) by
   rw [HR.out]
   unfold K.check33 AV.an
   rw [if_neg HNE.out,hac,if_neg (by simp)])
  clear hac
  have hown0:w2.ownsRow w2.heap.size 47 7 (.slice none 0 0) (((a.v.take 0).map (K.req x.r))).length (((a.v.take 0).map (K.req x.r)).flatMap Q.cells):=World.ownsRow_nil _ _ _ _
  go_wp2_with fail
  rw [←hw0,←hw1,←hw2]
  clear hw0 hw1 hw2 z0 z1 b0 b1 b2 b12 hN0 hB1 hA2 d1 d2
  clear p0 p1 p2 p3 c0 c1 c2 c3 c4 c5 c6 r0 r1 r2 r3
  go_loopw [7,8,47] (fun v7 v8 v47 wr=>∃ (k:Nat) (p:Int),v8=.int .i64 p∧v47=.int .i64 k∧k≤a.vn∧Hid (K.asc33 x.r.length (-1) a.v=K.asc33 x.r.length p (a.v.drop k))∧wr.ownsRow w2.heap.size 47 7 v7 ((a.v.take k).map (K.req x.r)).length (((a.v.take k).map (K.req x.r)).flatMap Q.cells)∧(-1≤p)∧Below w2.heap.size w2 wr) (fun _ _ v47 _=>a.vn - (intOf v47).toNat)
  case atStart=>exact ⟨0,-1,rfl,rfl,Nat.zero_le _,rfl,hown0,by omega,Below.refl _ _⟩
  case round =>
   clear hown0
   obtain ⟨k,p,rfl,rfl,hk,hsc,hown,hp1,hbr⟩:=hrel
   have hbw:=bel hb2 hbr
   have hLl:((a.v.take k).map (K.req x.r)).length≤a.vn:=by rw [List.length_map,List.length_take];omega
   obtain ⟨L,hL⟩:∃ L,L=(a.v.take k).map (K.req x.r):=⟨_,rfl⟩
   rw [←hL] at hown hLl
   have HL:=Lib.hid hL
   clear hL
   by_cases hlt:k < a.vn
   ·obtain ⟨ad,i,hVA,hi9,ci⟩:=(ha2.below hbr).v.at_ hlt
    have hst:=hsc.out.trans (K.asc33_at hi9)
    have HST:=Lib.hid hst
    have HI9:=Lib.hid hi9
    have k0:(0:Int)≤(k:Int):=by omega
    have k1:(k:Int) < (a.vn:Int):=by omega
    clear hst hsc hi9
    obtain ⟨p0,p1,p2,p3,c0,c1,c2,c3,c4,c5,c6,r0,r1,r2,r3⟩:=HMK.out _ hbr
    by_cases hip:i≤p
    ·have e1:decide (i≤p)=true:=by simp [hip]
     have HX:=Lib.hid (show R=false by rw [HRT.out,HST.out,e1];rfl)
     rw [hVA]
     go_wp2_with fail
     go_ret
     exact ⟨by rw [HX.out];rfl,hbw⟩
    have e1:decide (i≤p)=false:=by simp;omega
    by_cases hin:(x.m:Int)≤i
    ·have e2:decide ((x.m:Int)≤i)=true:=by simp [hin]
     have HX:=Lib.hid (show R=false by rw [HRT.out,HST.out,e1,←HRN.out,e2];rfl)
     rw [hVA]
     go_wp2_with fail
     go_ret
     exact ⟨by rw [HX.out];rfl,hbw⟩
    have e2:decide ((x.m:Int)≤i)=false:=by simp;omega
    have HN:=Lib.hid (show K.asc33 x.r.length (-1) a.v=K.asc33 x.r.length i (a.v.drop (k + 1)) by rw [HST.out,e1,←HRN.out,e2];rfl)
    have hi1:-1≤i:=by omega
    obtain ⟨zn,rfl⟩:∃ zn:Nat,i=(zn:Int):=⟨i.toNat,by omega⟩
    have hzm:zn < x.m:=by omega
    obtain ⟨adq,y,hB,hy,-,m0,m1,m2,m3,m4,m5,m6⟩:=(hx2.below hbr).cs.reqs.at_ hzm
    have HE:=Lib.hid (show (a.v.take (k + 1)).map (K.req x.r)=L ++ [y] by
     rw [take_snoc HI9.out,List.map_append,HL.out]
     show _ ++ [K.req x.r (zn:Int)] = _
     rw [K.req_at hy])
    have n0:(0:Int)≤(zn:Int):=by omega
    have n1:(zn:Int) < (x.m:Int):=by omega
    have hL6:L.length≤1000000:=by omega
    obtain ⟨g9,hg9⟩:∃ g9,g9=wr.heap.size:=⟨_,rfl⟩
    obtain ⟨w5,hw5⟩:∃ w5:World,w5=wr.alloc (.cells #[.int .i64 y.node,.int .i64 y.room,.int .i64 y.kilos,.int .i64 y.service,.int .i64 y.frm,.int .i64 y.by_,.slice y.A y.n y.c] 47):=⟨_,rfl⟩
    have b5:Below wr.heap.size wr w5:=by rw [hw5];exact bel_alloc0 _ _
    have hB5:w5.heap[g9]? = some (.cells y.cells.toArray 47 (0,0)):=by rw [hw5,hg9];exact heap_alloc_new _ _
    have hown5:=own_below hown b5
    have hbs:w2.heap.size≤w5.heap.size:=Nat.le_trans hbr.size b5.size
    have hb5:=bel hbr b5
    clear hy hip hin
    rw [hVA,hB]
    go_wp2_with (first
     | (at_builtin;rw [←hw5,←hg9];refine app_req rfl _ _ rfl w2.heap.size _ L.length L rfl hown5 g9 y rfl hB5 hL6 hbs ?_;intro v6 w6 hown6 hgrow6 _)
     | fail)
    have hb6:Below w2.heap.size w2 w6:=below_own2 hb5 hgrow6 (fun g e=>(hown5.lt g e).1)
    go_roundw
    case rel=>(go_light;exact ⟨k + 1,(zn:Int),rfl,by go_num,hlt,HN.out,by rw [HE.out,List.length_append];exact hown6,hi1,hb6⟩)
    case measure=>(go_light;simp [intOf];omega)
   ·have HAS:=Lib.hid (show K.asc33 x.r.length (-1) a.v=true by rw [hsc.out,List.drop_of_length_le (by have:=HVN.out;omega)];rfl)
    have hd1:decide ((k:Int) < (a.vn:Int))=false:=by simp;omega
    have hd2:decide (k < a.vn)=false:=by simp;omega
    have HPK:=Lib.hid (show K.pick33 x.r a.v q=L ++ [q] by unfold K.pick33;rw [HL.out,List.take_of_length_le (by have:=HVN.out;omega)])
    have HLM:=Lib.hid (show ∀ p ∈ L,p ∈ x.r by
     intro p hp
     rw [HL.out] at hp
     obtain ⟨i,hi2,rfl⟩:=List.mem_map.1 hp
     obtain ⟨i0,i1⟩:=(K.asc33_iff.1 HAS.out).2 i (List.mem_of_mem_take hi2)
     obtain ⟨zn,rfl⟩:∃ zn:Nat,i=(zn:Int):=⟨i.toNat,by omega⟩
     have hz:x.r[zn]? = some (x.r[zn]'(by omega)):=List.getElem?_eq_getElem (by omega)
     rw [K.req_at hz]
     exact List.mem_of_getElem? hz)
    clear hsc
    have hS0:=HMK.out _ hbr
    have hS0d:=HMK.out _ hbr.drew
    by_cases hp0:a.pn=0
    rotate_left
    ·have HX:=Lib.hid (show R=false by
      rw [HRT.out,HAS.out,List.length_map,←HPN.out,show (a.pn == 0)=false by simp;omega]
      rfl)
     exact absurd (HX.out.symm.trans (HR.out.trans hck.out)) (by decide)
    have e1:((a.pn:Int) == 0)=true:=by simp [hp0]
    have e2:decide ((a.pn:Int)=0)=true:=by simp [hp0]
    have e3:decide (a.pn=0)=true:=by simp [hp0]
    obtain ⟨rz,hrz⟩:∃ rz,rz=K.refutes x.nd x.l x.ss (K.pick33 x.r a.v q) (a.bl.map BV.pr):=⟨_,rfl⟩
    have HX:=Lib.hid (show R=rz by
     rw [HRT.out,HAS.out,List.length_map,←HPN.out,show (a.pn == 0)=true by simp [hp0],hrz]
     rfl)
    have HRZ:=Lib.hid (show K.refutes x.nd x.l x.ss (L ++ [q]) (a.bl.map BV.pr)=rz by rw [hrz,HPK.out])
    clear hrz hp0 hd1 hd2
    have hd1:decide ((k:Int) < (a.vn:Int))=false:=by simp;omega
    have hd2:decide (k < a.vn)=false:=by simp;omega
    have hRa:Below wr.heap.size wr (wr.alloc (.cells #[.int .i64 q.node,.int .i64 q.room,.int .i64 q.kilos,.int .i64 q.service,.int .i64 q.frm,.int .i64 q.by_,.slice q.A q.n q.c] 47)):=(Below.refl _ _).alloc (Nat.le_refl _) _
    have hRad:=hRa.drew
    have hba:=bel hbr hRad
    have hbaa:=bel hbr hRa
    have S0a:=HMK.out _ hbaa
    have S0ad:=HMK.out _ hba
    have hLa:(wr.alloc (.cells #[.int .i64 q.node,.int .i64 q.room,.int .i64 q.kilos,.int .i64 q.service,.int .i64 q.frm,.int .i64 q.by_,.slice q.A q.n q.c] 47)).drew.heap[wr.heap.size]? = some (.cells #[.int .i64 q.node,.int .i64 q.room,.int .i64 q.kilos,.int .i64 q.service,.int .i64 q.frm,.int .i64 q.by_,.slice q.A q.n q.c] 47 (0,0)):=heap_alloc_new wr _
    have hownA:=own_below hown hRad
    have h63:L.length + 1≤maxLen:=by simp only [maxLen];have:=hao.fv;omega
    have h47:(L.length + 1) * 72≤140737488355328:=by have:=hao.fv;omega
    obtain ⟨p0,p1,p2,p3,c0,c1,c2,c3,c4,c5,c6,r0,r1,r2,r3⟩:=HMK.out _ hbr
    go_upto_region 16 with fail
    clear p0 p1 p2 p3 c0 c1 c2 c3 c4 c5 c6 r0 r1 r2 r3
    go_region_held3 (fun w':World=>w'.cell? ⟨w.heap.size,0,none⟩=some (.int .i64 x.nd)∧w'.cell? ⟨w.heap.size,1,none⟩=some (.slice x.A x.n x.c)∧w'.cell? ⟨w.heap.size,2,none⟩=some (.slice x.SA x.sn x.sc)∧w'.cell? ⟨w.heap.size,3,none⟩=some (.slice x.B x.m x.d)∧w'.cell? ⟨w.heap.size + 1,0,none⟩=some (.int .i64 q.node)∧w'.cell? ⟨w.heap.size + 1,1,none⟩=some (.int .i64 q.room)∧w'.cell? ⟨w.heap.size + 1,2,none⟩=some (.int .i64 q.kilos)∧w'.cell? ⟨w.heap.size + 1,3,none⟩=some (.int .i64 q.service)∧w'.cell? ⟨w.heap.size + 1,4,none⟩=some (.int .i64 q.frm)∧w'.cell? ⟨w.heap.size + 1,5,none⟩=some (.int .i64 q.by_)∧w'.cell? ⟨w.heap.size + 1,6,none⟩=some (.slice q.A q.n q.c)∧w'.cell? ⟨w.heap.size + 1 + 1,0,none⟩=some (.bool false)∧w'.cell? ⟨w.heap.size + 1 + 1,1,none⟩=some (.slice a.PA a.pn a.pc)∧w'.cell? ⟨w.heap.size + 1 + 1,2,none⟩=some (.slice a.VA a.vn a.vc)∧w'.cell? ⟨w.heap.size + 1 + 1,3,none⟩=some (.slice a.RA a.rn a.rc))
     (first | with_reducible exact S2 | with_reducible exact S1 | with_reducible exact S0ad | with_reducible exact S0a | with_reducible exact hS0d | with_reducible exact hS0 | fail)
     (first
      | (have h9:=hownA;clear hownA;refine step_append_rdg (hw:=?_) (s:=.tmp 80) (x:=.tmp 82) (t:=26) (ho:=rfl) (base:=w2.heap.size) (e:=47) (i:=i0) (z:=(.agg #[.int .i64 0,.int .i64 0,.int .i64 0,.int .i64 0,.int .i64 0,.int .i64 0,.slice none 0 0])) (size:=7) (bytes:=72) (ht:=Tryz.underlying26) (hi:=hi) (hz:=hz0) (hsize:=hz1) (hby:=hz2) (hzs:=rfl) (hsz:=by decide) (v:=u7) (n:=L.length) (xs:=L.flatMap Q.cells) (hs:=rfl) (hown:=?_) (A:=some ⟨_,0,none⟩) (m:=1) (c:=1) (news:=q.cells) (hx:=rfl) (hr:=?_) (h1:=req_one q) (h63:=h63) (hbytes:=h47) (hbase:=?_) (h:=?_);(first | rfl | kernel_rfl | fail);(first | with_reducible exact h9 | fail);(first | with_reducible exact rd_lit hLa | fail);(first | with_reducible exact hba.size | fail);intro v9 w9 hown9 hgr9 _;have b9:Below w2.heap.size w2 w9:=below_own2 hba hgr9 (fun g e=>(own_in h9 g e).1);have S1:=HMK.out _ b9;obtain ⟨A9,k9,rfl,hRd9,-⟩:=own_form hown9;have hL9:Reqs w9 A9 (L.length + 1) (L ++ [q]):=reqs_snoc58 hRd9 (fun p hp=>(hx2.cs.reqs.2.2 p (HLM.out p hp)).below b9) (hx2.req.below b9))
      | (go_at_call 28;refine (refutes32_any (x.with_ A9 (L.length + 1) k9 (L ++ [q])) a.RA a.rn a.rc a.bl _ (hx2.case b9 hL9 (show (L ++ [q]).map Q.bare=(K.pick33 x.r a.v q).map Q.bare by rw [HPK.out]) (by have:=hao.fv;omega)) (ha2.below b9).b hao.fb).mono ?_;rintro e w8 ⟨rfl,b8⟩;have b8r:=bel b9 b8;have S2:=HMK.out _ b8r)
      | fail)
    all_goals rw [show K.refutes (x.with_ A9 (L.length + 1) k9 (L ++ [q])).nd (x.with_ A9 (L.length + 1) k9 (L ++ [q])).l (x.with_ A9 (L.length + 1) k9 (L ++ [q])).ss (x.with_ A9 (L.length + 1) k9 (L ++ [q])).r (a.bl.map BV.pr)=rz from HRZ.out]
    all_goals go_wp2_with fail
    all_goals go_ret
    all_goals exact ⟨by rw [HX.out];rfl,bel hb2 b8r⟩
namespace K
section
variable {nd : Int} {l : List Ro} {ss ss' : List S} {r : List Q} {x : Q}
theorem ask_ok (h1:(plan nd l ss r).2=0) (h2:fits33 nd x=true) (h3:r.length < 6):(ask33 nd l ss r x).2.2=0:=by
 unfold ask33
 rw [if_neg (by rw [h1,h2];simp),if_neg (by omega)]
 split
 ·rfl
 ·split <;> rfl
theorem plan_nil (h:pcheck nd l ss [] = 0):(plan nd l ss []).2=0:=by
 have h2:A.first (feas nd l ss []) ss.length ([]:List Q).length=some []:=by
  unfold A.first
  have h1:A.possible (feas nd l ss []) ss.length [] = true:=by
   unfold A.possible
   rw [List.all_eq_true]
   intro s _
   rfl
  rw [List.length_nil,show A.exts ss.length 0=[[]] from rfl,List.find?_cons,h1]
 unfold plan
 rw [if_pos h,h2]
structure AskTop (nd:Int) (l:List Ro) (ss:List S) (r:List Q) (x:Q) (R:Option (List Q) × An × Int):Prop where
 err:R.2.2=0
 check:check33 nd l ss r x R.2.1=true
 book:R.1=some (if R.2.1.acc=true then r ++ [x] else r)
 checks:R.2.1.acc=true→K.checks nd l ss (r ++ [x]) R.2.1.tours=0
 plan:R.2.1.acc=true→(K.plan nd l ss (r ++ [x])).2=0
 within:R.2.1.acc=false→∀ i ∈ R.2.1.blk,0≤i∧i < (r.length:Int)
 named:R.2.1.acc=false→(K.plan nd l ss (pick33 r R.2.1.blk x)).2=4
 less:R.2.1.acc=false→∀ k,k < R.2.1.blk.length→(K.plan nd l ss (pick33 r (R.2.1.blk.take k ++ R.2.1.blk.drop (k + 1)) x)).2=0
theorem ask_top (h1:(K.plan nd l ss r).2=0) (h2:fits33 nd x=true) (h3:r.length≤3):AskTop nd l ss r x (ask33 nd l ss r x):=by
 have h0:=ask_ok h1 h2 (by omega)
 have hb:=ask_book h0
 obtain ⟨hc,hr⟩:=ask_right (fun _=>h3) h0
 have hf:=fun h=>refusal (by omega) h0 h
 refine ⟨h0,hc,hb.1,hb.2,fun h=>?_,fun h=>(hf h).within,fun h=>refusal_named (by omega) (hf h),fun h k hk=>refusal_less (by omega) (hf h) hk⟩
 rcases hr with hr | hr
 ·exact hr.2
 ·rw [h] at hr;exact absurd hr.1 (by decide)
theorem AskTop.same {R:Option (List Q) × An × Int} (g:ss'.map S.bare=ss.map S.bare) (h:AskTop nd l ss' r x R):AskTop nd l ss r x R :=
 ⟨h.err,by rw [←check_same (ss:=ss) (ss':=ss') (r':=r) (x':=x) rfl g rfl];exact h.check,h.book,fun e=>by rw [←checks_same (r':=r ++ [x]) rfl g];exact h.checks e,fun e=>by rw [←plan_same (r':=r ++ [x]) rfl g];exact h.plan e,h.within,fun e=>by rw [←plan_same (r':=pick33 r R.2.1.blk x) rfl g];exact h.named e,fun e k hk=>by rw [←plan_same (r':=pick33 r (R.2.1.blk.take k ++ R.2.1.blk.drop (k + 1)) x) rfl g];exact h.less e k hk⟩
end
end K
structure TopBk (x xi:Cs) (i:Nat):Prop where
 nd:xi.nd=x.nd
 l:xi.l=x.l
 n:xi.n=x.n
 sn:xi.sn=x.sn
 ss:xi.ss.map S.bare=x.ss.map S.bare
 len:xi.m≤i
 plan:(K.plan x.nd x.l x.ss xi.r).2=0
 qn:∀ q ∈ xi.r,q.n≤6
 s9:∀ s ∈ xi.ss,s.n≤1000000
theorem TopBk.snoc {x xi x':Cs} {i:Nat} {w w':World} {q:Q} {R:Option (List Q) × K.An × Int} (h:TopBk x xi i) (hr:xi.m=xi.r.length) (hB:BookAt w' xi x' (some (xi.r ++ [q]))) (hS:Shifts w xi.SA xi.sn xi.ss) (hq:q.l.length≤6) (hl:∀ p ∈ xi.r,p.l.length≤6) (hA:K.AskTop x.nd x.l x.ss xi.r q R) (ha:R.2.1.acc=true):x'.m=xi.m + 1∧TopBk x x' (i + 1):=by
 obtain ⟨j1,j2,j3,j4,j5,j6,j7⟩:=hB
 have hm:x'.m=xi.m + 1:=by
  have h9:=congrArg List.length j7
  rw [List.length_map,List.length_map,List.length_append,List.length_singleton,←j5.reqs.1,←hr] at h9
  exact h9
 refine ⟨hm,⟨j1.trans h.nd,j2.trans h.l,j3.trans h.n,j4.trans h.sn,j6.trans h.ss,?_,?_,?_,same_sn j5.shifts hS j6 h.s9⟩⟩
 ·have:=h.len
  omega
 ·rw [K.plan_same (r:=xi.r ++ [q]) j7 rfl]
  exact hA.plan ha
 ·refine same_n j5.reqs j7 fun p hp=>?_
  rcases List.mem_append.1 hp with hp | hp
  ·exact hl p hp
  ·rw [List.mem_singleton.1 hp];exact hq
theorem TopBk.top {x xi:Cs} {i:Nat} {q:Q} {R:Option (List Q) × K.An × Int} (h:TopBk x xi i) (hr:xi.m=xi.r.length) (hi:i≤3) (hf:K.fits33 x.nd q=true) (hR:K.ask33 xi.nd xi.l xi.ss xi.r q=R):K.AskTop xi.nd xi.l xi.ss xi.r q R∧K.AskTop x.nd x.l x.ss xi.r q R:=by
 have hp:(K.plan xi.nd xi.l xi.ss xi.r).2=0:=by
  rw [h.nd,h.l,K.plan_same (r':=xi.r) rfl h.ss]
  exact h.plan
 have h1:K.AskTop xi.nd xi.l xi.ss xi.r q R:=by
  rw [←hR]
  exact K.ask_top hp (by rw [h.nd];exact hf) (by have:=h.len;omega)
 refine ⟨h1,?_⟩
 have h2:=h1
 rw [h.nd,h.l] at h2
 exact h2.same h.ss
theorem TopBk.first (x:Cs) (h1:K.netErr x.nd x.l=0) (h2:x.ss.length≤2) (h3:∀ s ∈ x.ss,T.check s=0∧s.depot < x.nd) (hs:∀ s ∈ x.ss,s.n≤1000000):TopBk x ⟨x.nd,x.A,x.n,x.c,x.l,x.SA,x.sn,x.sc,x.ss,none,0,0,[]⟩ 0 :=
 ⟨rfl,rfl,rfl,rfl,rfl,Nat.le_refl _,K.plan_nil (K.pcheck_of h1 (by omega) h3 (fun q h=>(by cases h)) (Nat.zero_le _)),fun q h=>(by cases h),hs⟩
theorem TopBk.next {x xi:Cs} {i:Nat} (h:TopBk x xi i):TopBk x xi (i + 1) :=
 ⟨h.nd,h.l,h.n,h.sn,h.ss,Nat.le_succ_of_le h.len,h.plan,h.qn,h.s9⟩
theorem reqs_len {w:World} {A:Option Addr} {n N:Nat} {L:List Q} (h:Reqs w A n L) (hN:∀ p ∈ L,p.n≤N):∀ p ∈ L,p.l.length≤N:=fun p hp=>by
 have:=(h.2.2 p hp).1
 have:=hN p hp
 omega
theorem pick_n {r:List Q} {v:List Int} {q:Q} {N:Nat} (hv:∀ i ∈ v,0≤i∧i < (r.length:Int)) (hr:∀ p ∈ r,p.n≤N) (hq:q.n≤N):∀ p ∈ K.pick33 r v q,p.n≤N:=fun p hp=>by
 unfold K.pick33 at hp
 rcases List.mem_append.1 hp with hp | hp
 ·obtain ⟨i,hi,rfl⟩:=List.mem_map.1 hp
  obtain ⟨i0,i1⟩:=hv i hi
  obtain ⟨zn,rfl⟩:∃ zn:Nat,i=(zn:Int):=⟨i.toNat,by omega⟩
  have hz:r[zn]? = some (r[zn]'(by omega)):=List.getElem?_eq_getElem (by omega)
  rw [K.req_at hz]
  exact hr _ (List.mem_of_getElem? hz)
 ·rw [List.mem_singleton.1 hp];exact hq
theorem plan_top (x:Cs) (A:Option Addr) (n k:Nat) (L:List Q) (w:World) (hR:Roads w x.A x.n x.l) (hS:Shifts w x.SA x.sn x.ss) (hL:Reqs w A n L) (hn:x.n≤1000000) (hsn:x.sn≤1000000) (hs:∀ s ∈ x.ss,s.n≤1000000) (hnn:n≤1000000) (hLn:∀ p ∈ L,p.n≤6) (er:Int) (h:(K.plan x.nd x.l x.ss L).2=er) :
  Calls Tryz.prog 20 #[.agg #[.int .i64 x.nd,.slice x.A x.n x.c],.slice x.SA x.sn x.sc,.slice A n k] w fun e w'=>(∃ A n c,e=.returned (.tuple #[.slice A n c,.int .i64 er]))∧Below w.heap.size w w':=by
 refine Calls.mono (plan32X (x.with_ A n k L) w ⟨hR,hS,hL,(show x.n≤1000000000 by omega),fun s hm=>by have:=hs s hm;omega,(show x.sn≤1000000000 by omega),(show n≤1000000000 by omega),fun p hp=>by have:=hLn p hp;omega⟩) ?_
 rintro e w' ⟨⟨A,n,c,l,rfl,-⟩,hb⟩
 subst h
 exact ⟨⟨A,n,c,rfl⟩,hb⟩
theorem serves_top (x:Cs) (A:Option Addr) (n k:Nat) (L:List Q) (LA:Option Addr) (ln lc:Nat) (ls:List TV) (w:World) (hR:Roads w x.A x.n x.l) (hS:Shifts w x.SA x.sn x.ss) (hL:Reqs w A n L) (hn:x.n≤1000000) (hsn:x.sn≤1000000) (hs:∀ s ∈ x.ss,s.n≤1000000) (hnn:n≤8) (hLn:∀ p ∈ L,p.n≤6) (hT:Tours w LA ln ls) (hF:FewT ln ls) (h:K.checks x.nd x.l x.ss L (ls.map TV.pr)=0) :
  Calls Tryz.prog 59 #[.agg #[.int .i64 x.nd,.slice x.A x.n x.c],.slice x.SA x.sn x.sc,.slice A n k,.slice LA ln lc] w fun e w'=>e=.returned (.bool true)∧Below w.heap.size w w' :=
 wholeServes_any (x.with_ A n k L) LA ln lc ls w ⟨hR,hS,hL,(show x.n≤1000000000 by omega),fun s hm=>by have:=hs s hm;omega,(show x.sn≤1000000000 by omega),(show n≤1000000000 by omega),fun p hp=>by have:=hLn p hp;omega⟩ hnn hT hF h
theorem answer_app (x:Cs) (q:Q) (a:AV) (acc:Bool) (w:World) (hx:Ok33 w x q) (ha:AvAt w a) (hao:AvOk a) (hm6:x.m < 6) (hfit:K.fits33 x.nd q=true) (hac:acc=a.acc) (hck:K.check33 x.nd x.l x.ss x.r q a.an=true) :
  Calls Tryz.prog 58 #[.agg #[.int .i64 x.nd,.slice x.A x.n x.c,.slice x.SA x.sn x.sc,.slice x.B x.m x.d],.agg #[.int .i64 q.node,.int .i64 q.room,.int .i64 q.kilos,.int .i64 q.service,.int .i64 q.frm,.int .i64 q.by_,.slice q.A q.n q.c],.agg #[.bool acc,.slice a.PA a.pn a.pc,.slice a.VA a.vn a.vc,.slice a.RA a.rn a.rc]] w fun e w'=>e=.returned (.bool true)∧Below w.heap.size w w':=by
 subst hac
 have h:=answer58_any x q a w hx ha hao hm6 hfit hck
 rw [hck] at h
 exact h
end Go.Proofs.YtippdjmpkafifaaGreat
