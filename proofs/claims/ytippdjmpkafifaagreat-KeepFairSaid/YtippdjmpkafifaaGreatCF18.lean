import Derived.Test.YtippdjmpkafifaaGreatCF17
import Derived.Test.YtippdjmpkafifaaGreatCF9
import Derived.Test.YtippdjmpkafifaaGreatCF10
import Derived.Test.YtippdjmpkafifaaGreatCF13
namespace Go.Proofs.YtippdjmpkafifaaGreat
open Go.RowKit
namespace K
section
variable {nd : Int} {l : List Ro} {s : S} {r : List Q} {v : List Int}
def TSat (nd:Int) (l:List Ro) (s:S) (r:List Q) (v:List Int) (N:Nat) (ts:List Int) (m i:Nat):Prop :=
 ts.length=6 * N∧∀ m' j,j < v.length→m'.testBit j=true→(m' < m∨(m'=m∧j < i))→ts[m' * 6 + j]? = some (lab nd l s r v m' j)
theorem tsat_start (N:Nat):TSat nd l s r v N (List.replicate (6 * N) 0) 1 0 :=
 ⟨by simp,fun m' j _ hb h=>by
  have:m'=0:=by omega
  rw [this,Nat.zero_testBit] at hb
  cases hb⟩
theorem TSat.skip {N m i:Nat} {ts:List Int} (h:TSat nd l s r v N ts m i) (hb:m.testBit i=false):TSat nd l s r v N ts m (i + 1) :=
 ⟨h.1,fun m' j hj hb' hc=>by
  refine h.2 m' j hj hb' ?_
  rcases hc with hc | ⟨rfl,hc⟩
  ·exact .inl hc
  ·by_cases e:j=i
   ·rw [e,hb] at hb';cases hb'
   ·exact .inr ⟨rfl,by omega⟩⟩
theorem TSat.row {N m:Nat} {ts:List Int} (h:TSat nd l s r v N ts m v.length):TSat nd l s r v N ts (m + 1) 0 :=
 ⟨h.1,fun m' j hj hb' hc=>h.2 m' j hj hb' (by
  by_cases e:m'=m
  ·exact .inr ⟨e,hj⟩
  ·exact .inl (by omega))⟩
theorem TSat.put {N m i z:Nat} {ts:List Int} (h:TSat nd l s r v N ts m i) (hz:z=m * 6 + i) (hv:v.length≤6) (hi:i < v.length) (hm:m < N):TSat nd l s r v N (ts.set z (lab nd l s r v m i)) m (i + 1):=by
 subst hz
 refine ⟨by rw [List.length_set];exact h.1,fun m' j hj hb' hc=>?_⟩
 rw [List.getElem?_set]
 by_cases e:m * 6 + i=m' * 6 + j
 ·have e1:m'=m:=by omega
  have e2:j=i:=by omega
  subst e1 e2
  rw [if_pos rfl,if_pos (by rw [h.1];omega)]
 ·rw [if_neg e]
  refine h.2 m' j hj hb' ?_
  rcases hc with hc | ⟨rfl,hc⟩
  ·exact .inl hc
  ·exact .inr ⟨rfl,by omega⟩
theorem TSat.get {N m i rest:Nat} {ts:List Int} (h:TSat nd l s r v N ts m i) (hr:rest < m) (hm:m < N) (hv:v.length≤6):∀ j,j < v.length→∃ y,ts[rest * 6 + j]? = some y∧(rest.testBit j=true→y=lab nd l s r v rest j):=fun j hj=>by
 have hl:rest * 6 + j < ts.length:=by rw [h.1];omega
 refine ⟨_,List.getElem?_eq_getElem hl,fun hb=>?_⟩
 have h1:=h.2 rest j hj hb (.inl hr)
 rw [List.getElem?_eq_getElem hl] at h1
 injection h1
end
end K
theorem own_put {w:World} {base:Nat} {e:TypeId} {size n:Nat} {v:Value} {xs:List Value} (h:w.ownsRow base e size v n xs) {ad:Addr} {m c:Nat} {o:List Int} (hO:OI w ad m c o) (k:Nat) (u:Value) (hlt:ad.block < base):(w.setCell (ad.add k) u).ownsRow base e size v n xs:=by
 obtain ⟨-,-,g,cur,rfl,-,-⟩:=hO
 rw [add_zero_block]
 refine h.kept (grow_set (grow_refl w (some g)) g k u rfl) (.inr fun e=>?_)
 have:=(h.lt g e).1
 have:g < base:=hlt
 omega
set_option maxRecDepth 100000 in
set_option maxHeartbeats 16000000 in
theorem labels31_any (x:C) (V:Option Addr) (vn vc:Nat) (v:List Int) (w:World) (hx:At w x) (hV:Ints w V vn v) (hvn:vn≤1000000000) :
  Calls Tryz.prog 82 #[.agg #[.int .i64 x.nd,.slice x.A x.n x.c],.agg #[.int .i64 x.s.day,.int .i64 x.s.depot,.int .i64 x.s.start,.int .i64 x.s.end_,.int .i64 x.s.tare,.slice x.s.A x.s.n x.s.c],.slice x.B x.m x.d,.slice V vn vc] w fun e w'=>RetLabs w w' (K.labs x.nd x.l x.s x.r v) e:=by
 obtain ⟨w0,hw0⟩:∃ w0:World,w0=(w.alloc (.cells #[.int .i64 x.nd,.slice x.A x.n x.c] 24)).alloc (.cells #[.int .i64 x.s.day,.int .i64 x.s.depot,.int .i64 x.s.start,.int .i64 x.s.end_,.int .i64 x.s.tare,.slice x.s.A x.s.n x.s.c] 63):=⟨_,rfl⟩
 have z1:=World.size_alloc w (.cells #[.int .i64 x.nd,.slice x.A x.n x.c] 24)
 have b0:Below w.heap.size w w0:=by rw [hw0];exact bel ((Below.refl _ _).alloc (Nat.le_refl _) _) ((Below.refl _ _).alloc (Nat.le_refl _) _)
 have hN:Net w0 w.heap.size x.nd x.A x.n x.c:=by
  rw [hw0]
  exact (Net.new w x.nd x.A x.n x.c).below ((Below.refl _ _).alloc (Nat.le_refl _) _)
 have hS:Shf w0 (w.heap.size + 1) x.s:=by
  have h:=Shf.new (w.alloc (.cells #[.int .i64 x.nd,.slice x.A x.n x.c] 24)) x.s
  rw [z1] at h
  rw [hw0];exact h
 have p0:=hN.c0
 have p1:=hN.c1
 obtain ⟨s0,s1,s2,s3,s4,s5⟩:=hS.cells
 rw [hw0] at p0 p1 s0 s1 s2 s3 s4 s5
 go_enter Tryz.func82,Tryz.ntmps82
 go_wp2_with fail
 rw [←hw0]
 clear hw0 z1 p0 p1 s0 s1 s2 s3 s4 s5
 refine (right31_any x V vn vc v _ (hx.below b0) (hV.below b0) hvn).mono ?_
 obtain ⟨okb,hokb⟩:∃ okb,okb=K.ok31 x.nd x.l x.s x.r v:=⟨_,rfl⟩
 rw [←hokb]
 rintro e w1 ⟨rfl,b1⟩
 have hb:=bel b0 b1
 have hN:=hN.below b1
 have hS:=hS.below b1
 clear b0 b1
 cases okb
 ·have HX:=Lib.hid (show K.labs x.nd x.l x.s x.r v=[] by simp [K.labs,←hokb])
  clear hokb
  go_wp2_with fail
  go_ret
  exact ⟨⟨none,0,0,rfl,by rw [HX.out];exact ⟨rfl,rfl,fun h=>absurd h (by omega)⟩⟩,hb⟩
 have hok:=hokb.symm
 have hv6:vn≤6:=by rw [hV.1];exact (K.ok31_parts hok).2.2.2.2.1
 have HVN:=Lib.hid hV.1
 obtain ⟨N,hNN⟩:∃ N,N=2 ^ vn:=⟨_,rfl⟩
 have hN1:1≤N:=by rw [hNN];exact Nat.two_pow_pos vn
 have hN64:N≤64:=by rw [hNN];exact Nat.pow_le_pow_right (by omega) hv6
 obtain ⟨N6,hN6⟩:∃ N6,N6=6 * N:=⟨_,rfl⟩
 have HNN:=Lib.hid (show N=2 ^ v.length by rw [hNN,HVN.out])
 have HW1:=Lib.hid (show IntKind.i64.wrap ((2:Int) ^ vn)=(N:Int) by rw [wrap_pow (by omega),hNN];simp)
 have kw6:IntKind.i64.wrap ((6:Int) * 2 ^ vn)=(N6:Int):=by
  have h1:((2:Int) ^ vn)=(N:Int):=by rw [hNN];simp
  rw [h1,IntWalk.i64_in _ (by omega)];omega
 have HW2:=Lib.hid (show wrap64 ((2:Int) ^ vn)=(N:Int) by rw [←IntWalk.i64_left];exact HW1.out)
 have kw7:wrap64 ((6:Int) * 2 ^ vn)=(N6:Int):=by rw [←IntWalk.i64_left];exact kw6
 have HKW6:=Lib.hid kw6
 have HKW7:=Lib.hid kw7
 have HOK:=Lib.hid hok
 clear hNN hokb kw6 kw7
 have hN6b:N6≤1000000:=by omega
 have hmk:=fun w'=>make_ints N6 hN6b w'
 have kw6:=HKW6.out
 have kw7:=HKW7.out
 obtain ⟨w2,hw2⟩:∃ w2:World,w2=w1.alloc (.cells (intCells (List.replicate N6 0)).toArray 3):=⟨_,rfl⟩
 have b12:Below w1.heap.size w1 w2:=by rw [hw2];exact (Below.refl _ _).alloc (Nat.le_refl _) _
 have hT2:OI w2 ⟨w1.heap.size,0,none⟩ N6 N6 (List.replicate N6 0):=⟨by simp,Nat.le_refl _,_,_,rfl,by rw [hw2];exact heap_alloc_new _ _,by simp [intCells]⟩
 have z2:w2.heap.size=w1.heap.size + 1:=by rw [hw2];exact World.size_alloc _ _
 have HTS:=Lib.hid (show K.TSat x.nd x.l x.s x.r v N (List.replicate N6 0) 1 0 by rw [hN6];exact K.tsat_start N)
 have HN6:=Lib.hid hN6
 clear hN6
 obtain ⟨adT,hadT⟩:∃ adT:Addr,adT=⟨w1.heap.size,0,none⟩:=⟨_,rfl⟩
 rw [←hadT] at hT2
 have hadb:adT.block=w1.heap.size:=by rw [hadT]
 go_upto_region 5 with fail
 rw [←hw2,←hadT]
 clear hw2 hadT hmk kw6 kw7
 go_wp2_with fail
 go_loopw [9,11] (fun v9 v11 wr=>∃ (m:Nat) (ts:List Int),v11=.int .i64 m∧1≤m∧m≤N∧OI wr adT N6 N6 ts∧Hid (K.TSat x.nd x.l x.s x.r v N ts m 0)∧(K.nlab x.nd x.l x.s x.r v m 0≤(K.labs x.nd x.l x.s x.r v).length)∧wr.ownsRow w2.heap.size 167 3 v9 (K.nlab x.nd x.l x.s x.r v m 0) (((K.labs x.nd x.l x.s x.r v).take (K.nlab x.nd x.l x.s x.r v m 0)).flatMap labCells)∧Below w1.heap.size w1 wr∧w2.heap.size≤wr.heap.size) (fun _ v11 _=>N - (intOf v11).toNat)
 case atStart=>exact ⟨1,_,rfl,Nat.le_refl _,hN1,hT2,HTS.out,by rw [K.nlab_zero];exact Nat.zero_le _,by rw [K.nlab_zero];exact World.ownsRow_nil _ _ _ _,b12,Nat.le_refl _⟩
 case round =>
  clear hT2 HTS b12
  obtain ⟨m,ts,rfl,hm1,hmN,hT,hts,hnl,hown,hbr,hsz⟩:=hrel
  by_cases hlt:m < N
  ·have hlt':decide ((m:Int) < (N:Int))=true:=by simp;exact hlt
   have hw1:=HW1.out
   have hw2:=HW2.out
   go_wp2_with fail
   clear hw1 hw2
   go_loopw [9,12] (fun v9 v12 wi=>∃ (i:Nat) (ts:List Int),v12=.int .i64 i∧i≤vn∧OI wi adT N6 N6 ts∧Hid (K.TSat x.nd x.l x.s x.r v N ts m i)∧(K.nlab x.nd x.l x.s x.r v m i≤(K.labs x.nd x.l x.s x.r v).length)∧wi.ownsRow w2.heap.size 167 3 v9 (K.nlab x.nd x.l x.s x.r v m i) (((K.labs x.nd x.l x.s x.r v).take (K.nlab x.nd x.l x.s x.r v m i)).flatMap labCells)∧Below w1.heap.size w1 wi∧w2.heap.size≤wi.heap.size) (fun _ v12 _=>vn - (intOf v12).toNat)
   case atStart=>exact ⟨0,ts,rfl,Nat.zero_le _,hT,hts,hnl,hown,hbr,hsz⟩
   case round =>
    clear hT hts hnl hown hbr hsz
    obtain ⟨i,ts,rfl,hi,hT,hts,hnl,hown,hbr,hsz⟩:=hrel
    by_cases hlti:i < vn
    ·cases hbit:m.testBit i
     ·have hb1:bits BinOp.and IntKind.i64 ((m:Int) / 2 ^ i) 1=0:=by rw [bit_at (by omega) (by omega),hbit];rfl
      have HNS:=Lib.hid (K.nlab_skip (nd:=x.nd) (l:=x.l) (s:=x.s) (r:=x.r) (v:=v) hbit)
      have HT2:=Lib.hid (hts.out.skip hbit)
      rw [←HNS.out] at hown hnl
      clear hbit hts
      go_wp2_with fail
      go_roundw
      case rel=>exact ⟨i + 1,ts,by go_num,hlti,hT,HT2.out,hnl,hown,hbr,hsz⟩
      case measure=>simp [intOf];omega
     ·have hb1:bits BinOp.and IntKind.i64 ((m:Int) / 2 ^ i) 1=1:=by rw [bit_at (by omega) (by omega),hbit];rfl
      go_upto_region 12 with fail
      clear hb1
      obtain ⟨hre,hrb⟩:=bit_rest (show m < 64 by omega) (show i < 6 by omega) hbit
      have HBIT:=Lib.hid hbit
      clear hbit hrb
      have hN':=hN.below hbr
      have hS':=hS.below hbr
      have hbw:=bel hb hbr
      have p0:=hN'.c0
      have p1:=hN'.c1
      obtain ⟨s0,s1,s2,s3,s4,s5⟩:=hS'.cells
      obtain ⟨P,hP⟩:∃ P,P=2 ^ i:=⟨_,rfl⟩
      rw [←hP] at hre
      have hpw:1≤P:=by rw [hP];exact Nat.two_pow_pos i
      obtain ⟨rest,hrest⟩:∃ rest,rest=m - P:=⟨_,rfl⟩
      have CL:=label64_any x V vn vc v (some adT) N6 N6 ts m i P rest wr HOK.out (hx.below hbw) (hV.below hbw) hT.ints hP hrest (by omega) (by omega) (by rw [←HNN.out];exact hlt) hlti HBIT.out (fun j hj=>hts.out.get (by omega) hlt (by rw [←HVN.out];exact hv6) j (by rw [←HVN.out];exact hj))
      clear hre hP hpw hrest hN' hS'
      go_wp2_with fail
      refine CL.mono ?_
      obtain ⟨L,hL⟩:∃ L,L=K.lab x.nd x.l x.s x.r v m i:=⟨_,rfl⟩
      rw [←hL]
      rintro e w3 ⟨rfl,b3⟩
      have hT3:=hT.below b3
      have hbr3:Below w1.heap.size w1 w3:=bel hbr b3
      have hown3:=own_below hown b3
      have hsz3:w2.heap.size≤w3.heap.size:=Nat.le_trans hsz b3.size
      clear CL p0 p1 s0 s1 s2 s3 s4 s5 hT hown hbr hsz b3 hbw
      obtain ⟨m6,hm6⟩:∃ m6:Nat,m6=m * 6:=⟨_,rfl⟩
      obtain ⟨z,hz⟩:∃ z:Nat,z=m6 + i:=⟨_,rfl⟩
      have HZ:=Lib.hid (show z=m * 6 + i by rw [hz,hm6])
      have hzN:z < N6:=by rw [HN6.out];omega
      obtain ⟨old,hold⟩:∃ old,ts[z]? = some old:=⟨_,List.getElem?_eq_getElem (by rw [←hT3.1];exact hzN)⟩
      have cz:=hT3.cell hold
      have fz:=hT3.free z
      have kw1:IntKind.i64.wrap ((m:Int) * 6)=(m6:Int):=by rw [IntWalk.i64_in _ (by omega)];omega
      have kw3:IntKind.i64.wrap ((m6:Int) + (i:Int))=(z:Int):=by rw [IntWalk.i64_in _ (by omega)];omega
      have kk0:(0:Int)≤(z:Int):=by omega
      have kk1:(z:Int) < (N6:Int):=by omega
      obtain ⟨w4,hw4⟩:∃ w4:World,w4=w3.setCell (adT.add z) (.int .i64 L):=⟨_,rfl⟩
      have hT4:OI w4 adT N6 N6 (ts.set z L):=by rw [hw4];exact hT3.set z L
      have hbr4:Below w1.heap.size w1 w4:=by rw [hw4];exact hbr3.setCell (by rw [add_block,hadb];exact Nat.le_refl _) _
      have z4:w4.heap.size=w3.heap.size:=by rw [hw4];simp
      have hown4:w4.ownsRow w2.heap.size 167 3 u9 (K.nlab x.nd x.l x.s x.r v m i) (((K.labs x.nd x.l x.s x.r v).take (K.nlab x.nd x.l x.s x.r v m i)).flatMap labCells):=by
       rw [hw4];exact own_put hown3 hT3 z _ (by omega)
      have HNX:=Lib.hid (K.nlab_next (nd:=x.nd) (l:=x.l) (s:=x.s) (r:=x.r) (v:=v) HBIT.out)
      have hnth:=K.labs_nth (nd:=x.nd) (l:=x.l) (s:=x.s) (r:=x.r) HOK.out (by rw [←HNN.out];exact hlt) (by rw [←HVN.out];exact hlti) HBIT.out
      rw [←hL] at hnth
      have HTK:=Lib.hid (take_snoc hnth)
      have hnl2:K.nlab x.nd x.l x.s x.r v m (i + 1)≤(K.labs x.nd x.l x.s x.r v).length:=by rw [HNX.out];exact (List.getElem?_eq_some_iff.1 hnth).1
      have HT5:=Lib.hid (show K.TSat x.nd x.l x.s x.r v N (ts.set z L) m (i + 1) by rw [hL];exact hts.out.put HZ.out (by rw [←HVN.out];exact hv6) (by rw [←HVN.out];exact hlti) hlt)
      have hll:=K.labs_len x.nd x.l x.s x.r v
      have hln:K.nlab x.nd x.l x.s x.r v m i≤1000000:=by omega
      have hsz4:w2.heap.size≤w4.heap.size:=by omega
      clear hm6 hz hold hL hnth hll hts hT3 hown3 hbr3 hnl
      go_upto_region 14 with fail
      rw [←hw4]
      clear hw4 cz fz kw1 kw3 kk0 kk1 z4 hsz3
      have ha:Below w4.heap.size w4 (w4.alloc (.cells #[.int .i64 (m:Int),.int .i64 (i:Int),.int .i64 L] 167)):=(Below.refl _ _).alloc (Nat.le_refl _) _
      have hown5:=own_below hown4 ha
      have hs2:w2.heap.size≤(w4.alloc (.cells #[.int .i64 (m:Int),.int .i64 (i:Int),.int .i64 L] 167)).heap.size:=Nat.le_trans hsz4 ha.size
      go_wp2_with (at_builtin;refine app_lab rfl (.tmp 58) (.tmp 63) rfl w2.heap.size u9 (K.nlab x.nd x.l x.s x.r v m i) ((K.labs x.nd x.l x.s x.r v).take (K.nlab x.nd x.l x.s x.r v m i)) rfl hown5 w4.heap.size m i L rfl (heap_alloc_at _ _ _ rfl) hln hs2 ?_;intro tv' w6 hown6 hgrow6 hat6)
      have b6:Below w1.heap.size w1 w6:=below_own2 (bel hbr4 ha) hgrow6 (fun g e=>by have:=(hown4.lt g e).1;omega)
      have hT6:OI w6 adT N6 N6 (ts.set z L):=(hT4.below ha).grown hgrow6 (fun e=>by have:=(hown4.lt _ e.symm).1;omega)
      have hsz6:w2.heap.size≤w6.heap.size:=Nat.le_trans hs2 hgrow6.size
      rw [←HTK.out,←HNX.out] at hown6
      clear hgrow6 hat6 hown5 hown4 hT4 ha hs2
      go_roundw
      case rel=>(go_light;exact ⟨i + 1,_,by go_num,hlti,hT6,HT5.out,hnl2,hown6,b6,hsz6⟩)
      case measure=>(go_light;simp [intOf] <;> omega)
    ·have HRW:=Lib.hid (K.nlab_row (nd:=x.nd) (l:=x.l) (s:=x.s) (r:=x.r) (v:=v) m)
     have hin:i=v.length:=by rw [←HVN.out];omega
     have HT5:=Lib.hid (show K.TSat x.nd x.l x.s x.r v N ts (m + 1) 0 by have h:=hts.out;rw [hin] at h;exact h.row)
     rw [hin,HRW.out] at hown hnl
     clear hin hts
     go_wp2_with fail
     go_roundw
     case rel=>exact ⟨m + 1,ts,by go_num,by omega,by omega,hT,HT5.out,hnl,hown,hbr,hsz⟩
     case measure=>simp [intOf];omega
  ·have hmN':m=N:=by omega
   have he:=K.nlab_end (nd:=x.nd) (l:=x.l) (s:=x.s) (r:=x.r) HOK.out
   rw [hmN',HNN.out,he,List.take_length] at hown
   obtain ⟨A9,c9,rfl,hRd,-⟩:=own_form hown
   have hw1:decide ((m:Int) < IntKind.i64.wrap ((2:Int) ^ vn))=false:=by rw [HW1.out];simp;omega
   have hw2:decide ((m:Int) < wrap64 ((2:Int) ^ vn))=false:=by rw [HW2.out];simp;omega
   clear he hmN' hts hown
   go_wp2_with fail
   clear hw1 hw2
   go_ret
   exact ⟨⟨_,_,_,rfl,⟨rfl,hRd⟩⟩,bel hb hbr⟩
set_option maxRecDepth 100000 in
set_option maxHeartbeats 16000000 in
theorem blocks31_any (x:C) (sh:Int) (V:Option Addr) (vn vc:Nat) (v:List Int) (LA:Option Addr) (ln lc:Nat) (l:List Lb) (w:World) (hx:At w x) (hV:Ints w V vn v) (hvn:vn≤1000000000) (hL:Labs w LA ln l) (hln:ln≤1000000000) :
  Calls Tryz.prog 90 #[.agg #[.int .i64 x.nd,.slice x.A x.n x.c],.agg #[.int .i64 x.s.day,.int .i64 x.s.depot,.int .i64 x.s.start,.int .i64 x.s.end_,.int .i64 x.s.tare,.slice x.s.A x.s.n x.s.c],.slice x.B x.m x.d,.agg #[.int .i64 sh,.slice V vn vc,.slice LA ln lc]] w fun e w'=>e=.returned (.bool (K.blocks x.nd x.l x.s x.r v l))∧Below w.heap.size w w':=by
 obtain ⟨w1,hw1⟩:∃ w1:World,w1=w.alloc (.cells #[.int .i64 x.nd,.slice x.A x.n x.c] 24):=⟨_,rfl⟩
 obtain ⟨w2,hw2⟩:∃ w2:World,w2=w1.alloc (.cells #[.int .i64 x.s.day,.int .i64 x.s.depot,.int .i64 x.s.start,.int .i64 x.s.end_,.int .i64 x.s.tare,.slice x.s.A x.s.n x.s.c] 63):=⟨_,rfl⟩
 obtain ⟨w3,hw3⟩:∃ w3:World,w3=w2.alloc (.cells #[.int .i64 sh,.slice V vn vc,.slice LA ln lc] 90):=⟨_,rfl⟩
 have z1:w1.heap.size=w.heap.size + 1:=by rw [hw1];exact World.size_alloc _ _
 have z2:w2.heap.size=w.heap.size + 1 + 1:=by rw [hw2,World.size_alloc,z1]
 have b01:Below w.heap.size w w1:=by rw [hw1];exact (Below.refl _ _).alloc (Nat.le_refl _) _
 have b12:Below w1.heap.size w1 w2:=by rw [hw2];exact (Below.refl _ _).alloc (Nat.le_refl _) _
 have b23:Below w2.heap.size w2 w3:=by rw [hw3];exact (Below.refl _ _).alloc (Nat.le_refl _) _
 have hP:Net w3 w.heap.size x.nd x.A x.n x.c:=by
  have h1:Net w1 w.heap.size x.nd x.A x.n x.c:=by rw [hw1];exact Net.new _ _ _ _ _
  exact (h1.below b12).below b23
 have hS:Shf w3 (w.heap.size + 1) x.s:=by
  have h1:Shf w2 (w.heap.size + 1) x.s:=by rw [←z1,hw2];exact Shf.new _ _
  exact h1.below b23
 have hB:w3.heap[w.heap.size + 1 + 1]? = some (.cells #[.int .i64 sh,.slice V vn vc,.slice LA ln lc] 90 (0,0)):=by rw [←z2,hw3];exact heap_alloc_new _ _
 have hb:=bel (bel b01 b12) b23
 have HLN:=Lib.hid hV.1
 go_enter Tryz.func90,Tryz.ntmps90
 go_upto_region 1 with fail
 rw [←hw1,←hw2,←hw3]
 clear hw1 hw2 hw3 z1 z2 b01 b12 b23
 have hmk:∀ w',Below w3.heap.size w3 w'→(fun w':World=>Below w3.heap.size w3 w'∧w'.cell? ⟨w.heap.size,0,none⟩=some (.int .i64 x.nd)∧w'.cell? ⟨w.heap.size,1,none⟩=some (.slice x.A x.n x.c)∧w'.cell? ⟨w.heap.size + 1,0,none⟩=some (.int .i64 x.s.day)∧w'.cell? ⟨w.heap.size + 1,1,none⟩=some (.int .i64 x.s.depot)∧w'.cell? ⟨w.heap.size + 1,2,none⟩=some (.int .i64 x.s.start)∧w'.cell? ⟨w.heap.size + 1,3,none⟩=some (.int .i64 x.s.end_)∧w'.cell? ⟨w.heap.size + 1,4,none⟩=some (.int .i64 x.s.tare)∧w'.cell? ⟨w.heap.size + 1,5,none⟩=some (.slice x.s.A x.s.n x.s.c)∧w'.cell? ⟨w.heap.size + 1 + 1,0,none⟩=some (.int .i64 sh)∧w'.cell? ⟨w.heap.size + 1 + 1,1,none⟩=some (.slice V vn vc)∧w'.cell? ⟨w.heap.size + 1 + 1,2,none⟩=some (.slice LA ln lc)) w':=fun w' h=>⟨h,(hP.below h).c0,(hP.below h).c1,(hS.below h).cells.1,(hS.below h).cells.2.1,(hS.below h).cells.2.2.1,(hS.below h).cells.2.2.2.1,(hS.below h).cells.2.2.2.2.1,(hS.below h).cells.2.2.2.2.2,blk_cell (blk_below h hB) 0 _ rfl,blk_cell (blk_below h hB) 1 _ rfl,blk_cell (blk_below h hB) 2 _ rfl⟩
 have hXx:∀ w',Below w3.heap.size w3 w'→At w' x:=fun w' h=>(hx.below hb).below h
 have hVx:∀ w',Below w3.heap.size w3 w'→Ints w' V vn v:=fun w' h=>(hV.below hb).below h
 cases hokb:K.ok31 x.nd x.l x.s x.r v
 ·have HX:=Lib.hid (show K.blocks x.nd x.l x.s x.r v l=false by simp [K.blocks,hokb])
  have C:∀ j:Beh w3,Calls Tryz.prog 130 #[.agg #[.int .i64 x.nd,.slice x.A x.n x.c],.agg #[.int .i64 x.s.day,.int .i64 x.s.depot,.int .i64 x.s.start,.int .i64 x.s.end_,.int .i64 x.s.tare,.slice x.s.A x.s.n x.s.c],.slice x.B x.m x.d,.slice V vn vc] j.val fun e w'=>e=.returned (.bool false)∧Below j.val.heap.size j.val w':=fun j=>by
   have h:=right31_any x V vn vc v j.val (hXx _ j.property) (hVx _ j.property) hvn
   rw [hokb] at h
   exact h
  clear hokb hXx hVx
  obtain ⟨-,p0,p1,s0,s1,s2,s3,s4,s5,b0,b1,b2⟩:=hmk _ (Below.refl _ _)
  have p0:=Beh.cell p0
  have p1:=Beh.cell p1
  have s0:=Beh.cell s0
  have s1:=Beh.cell s1
  have s2:=Beh.cell s2
  have s3:=Beh.cell s3
  have s4:=Beh.cell s4
  have s5:=Beh.cell s5
  have b0:=Beh.cell b0
  have b1:=Beh.cell b1
  have b2:=Beh.cell b2
  clear hmk
  refine reg_beh (by kernel_rfl) (by kernel_rfl) ?_
  repeat (go_big_quiet_step ((go_at_call 130;exact Beh.calls (C _))))
  refine wpQuiet_nil ?_
  rintro w4 ⟨⟨_,b34⟩,rfl⟩
  go_wp2_with fail
  go_ret
  exact ⟨ret_b HX.out.symm,bel hb b34⟩
 have hv6:vn≤6:=by rw [hV.1];exact (K.ok31_parts hokb).2.2.2.2.1
 have HOK:=Lib.hid hokb
 have HC34:=Lib.hid (show ∀ j:Beh w3,Calls Tryz.prog 130 #[.agg #[.int .i64 x.nd,.slice x.A x.n x.c],.agg #[.int .i64 x.s.day,.int .i64 x.s.depot,.int .i64 x.s.start,.int .i64 x.s.end_,.int .i64 x.s.tare,.slice x.s.A x.s.n x.s.c],.slice x.B x.m x.d,.slice V vn vc] j.val fun e w'=>e=.returned (.bool true)∧Below j.val.heap.size j.val w' from fun j=>by
   have h:=right31_any x V vn vc v j.val (hXx _ j.property) (hVx _ j.property) hvn
   rw [hokb] at h
   exact h)
 clear hokb
 cases hv0:((vn:Int) == 0)
 rotate_left
 ·have h0:vn=0:=by simpa using hv0
  have hv0n:(vn == 0)=true:=by simp [h0]
  have HX:=Lib.hid (show K.blocks x.nd x.l x.s x.r v l=false by
   have h1:v.length=0:=by rw [←HLN.out];exact h0
   simp [K.blocks,h1])
  have C:=HC34.out
  clear hXx hVx h0
  obtain ⟨-,p0,p1,s0,s1,s2,s3,s4,s5,b0,b1,b2⟩:=hmk _ (Below.refl _ _)
  have p0:=Beh.cell p0
  have p1:=Beh.cell p1
  have s0:=Beh.cell s0
  have s1:=Beh.cell s1
  have s2:=Beh.cell s2
  have s3:=Beh.cell s3
  have s4:=Beh.cell s4
  have s5:=Beh.cell s5
  have b0:=Beh.cell b0
  have b1:=Beh.cell b1
  have b2:=Beh.cell b2
  clear hmk
  refine reg_beh (by kernel_rfl) (by kernel_rfl) ?_
  repeat (go_big_quiet_step ((go_at_call 130;exact Beh.calls (C _))))
  refine wpQuiet_nil ?_
  rintro w4 ⟨⟨_,b34⟩,rfl⟩
  go_wp2_with fail
  go_ret
  exact ⟨ret_b HX.out.symm,bel hb b34⟩
 have hv0n:(vn == 0)=false:=by have:¬ vn=0:=by simpa using hv0
                               simpa using this
 have HV0:=Lib.hid (show ¬ vn=0 by simpa using hv0)
 have S0:=hmk _ (Below.refl _ _)
 have hSd:∀ w',(fun w':World=>Below w3.heap.size w3 w'∧w'.cell? ⟨w.heap.size,0,none⟩=some (.int .i64 x.nd)∧w'.cell? ⟨w.heap.size,1,none⟩=some (.slice x.A x.n x.c)∧w'.cell? ⟨w.heap.size + 1,0,none⟩=some (.int .i64 x.s.day)∧w'.cell? ⟨w.heap.size + 1,1,none⟩=some (.int .i64 x.s.depot)∧w'.cell? ⟨w.heap.size + 1,2,none⟩=some (.int .i64 x.s.start)∧w'.cell? ⟨w.heap.size + 1,3,none⟩=some (.int .i64 x.s.end_)∧w'.cell? ⟨w.heap.size + 1,4,none⟩=some (.int .i64 x.s.tare)∧w'.cell? ⟨w.heap.size + 1,5,none⟩=some (.slice x.s.A x.s.n x.s.c)∧w'.cell? ⟨w.heap.size + 1 + 1,0,none⟩=some (.int .i64 sh)∧w'.cell? ⟨w.heap.size + 1 + 1,1,none⟩=some (.slice V vn vc)∧w'.cell? ⟨w.heap.size + 1 + 1,2,none⟩=some (.slice LA ln lc)) w'→(fun w':World=>Below w3.heap.size w3 w'∧w'.cell? ⟨w.heap.size,0,none⟩=some (.int .i64 x.nd)∧w'.cell? ⟨w.heap.size,1,none⟩=some (.slice x.A x.n x.c)∧w'.cell? ⟨w.heap.size + 1,0,none⟩=some (.int .i64 x.s.day)∧w'.cell? ⟨w.heap.size + 1,1,none⟩=some (.int .i64 x.s.depot)∧w'.cell? ⟨w.heap.size + 1,2,none⟩=some (.int .i64 x.s.start)∧w'.cell? ⟨w.heap.size + 1,3,none⟩=some (.int .i64 x.s.end_)∧w'.cell? ⟨w.heap.size + 1,4,none⟩=some (.int .i64 x.s.tare)∧w'.cell? ⟨w.heap.size + 1,5,none⟩=some (.slice x.s.A x.s.n x.s.c)∧w'.cell? ⟨w.heap.size + 1 + 1,0,none⟩=some (.int .i64 sh)∧w'.cell? ⟨w.heap.size + 1 + 1,1,none⟩=some (.slice V vn vc)∧w'.cell? ⟨w.heap.size + 1 + 1,2,none⟩=some (.slice LA ln lc)) w'.drew:=fun w' h=>hmk _ h.1.drew
 have hLx:∀ w',Below w3.heap.size w3 w'→Labs w' LA ln l:=fun w' h=>Lst.below hL (bel hb h)
 go_region_held3 (fun w':World=>Below w3.heap.size w3 w'∧w'.cell? ⟨w.heap.size,0,none⟩=some (.int .i64 x.nd)∧w'.cell? ⟨w.heap.size,1,none⟩=some (.slice x.A x.n x.c)∧w'.cell? ⟨w.heap.size + 1,0,none⟩=some (.int .i64 x.s.day)∧w'.cell? ⟨w.heap.size + 1,1,none⟩=some (.int .i64 x.s.depot)∧w'.cell? ⟨w.heap.size + 1,2,none⟩=some (.int .i64 x.s.start)∧w'.cell? ⟨w.heap.size + 1,3,none⟩=some (.int .i64 x.s.end_)∧w'.cell? ⟨w.heap.size + 1,4,none⟩=some (.int .i64 x.s.tare)∧w'.cell? ⟨w.heap.size + 1,5,none⟩=some (.slice x.s.A x.s.n x.s.c)∧w'.cell? ⟨w.heap.size + 1 + 1,0,none⟩=some (.int .i64 sh)∧w'.cell? ⟨w.heap.size + 1 + 1,1,none⟩=some (.slice V vn vc)∧w'.cell? ⟨w.heap.size + 1 + 1,2,none⟩=some (.slice LA ln lc))
  (first | assumption | exact S0 | exact hSd _ (by assumption))
  (first
   | (go_at_call 130;refine (HC34.out ⟨_,And.left (by assumption)⟩).mono ?_;rintro e w4 ⟨rfl,bb⟩;have S4:=hmk _ (bel (And.left (by assumption)) bb))
   | (go_at_call 82;refine (labels31_any x V vn vc v _ (hXx _ S4.1) (hVx _ S4.1) hvn).mono ?_;rintro e w6 ⟨⟨A6,n6,c6,rfl,hI6⟩,b6⟩;have S6:=hmk _ (bel S4.1 b6))
   | (go_at_call 83;refine (samelab_any LA A6 ln n6 lc c6 l (K.labs x.nd x.l x.s x.r v) w6 (hLx _ S6.1) hI6 hln (by rw [hI6.1];exact Nat.le_trans (K.labs_len _ _ _ _ _) (by omega))).mono ?_;rintro e w7 ⟨rfl,b7⟩;have S7:=hmk _ (bel S6.1 b7))
   | fail)
 obtain ⟨z,hz⟩:∃ z,z=decide (l=K.labs x.nd x.l x.s x.r v):=⟨_,rfl⟩
 rw [←hz]
 have HZ:=Lib.hid hz
 have b37:=S7.1
 have hP:=hP.below b37
 have hS:=hS.below b37
 have hB:=blk_below b37 hB
 have hb7:=bel hb b37
 clear S0 S4 S6 S7 hSd hmk hXx hVx hLx hI6 bb b6 b7 hz b37
 cases z
 ·have HX:=Lib.hid (show K.blocks x.nd x.l x.s x.r v l=false by unfold K.blocks;rw [←HZ.out];simp)
  go_wp2_with fail
  go_ret
  exact ⟨ret_b HX.out.symm,hb7⟩
 have hll:l=K.labs x.nd x.l x.s x.r v:=of_decide_eq_true HZ.out.symm
 obtain ⟨N,hN⟩:∃ N,N=2 ^ vn:=⟨_,rfl⟩
 have hN1:1≤N:=by rw [hN];exact Nat.two_pow_pos vn
 have hN64:N≤64:=by rw [hN];exact Nat.pow_le_pow_right (by omega) hv6
 have hw1:IntKind.i64.wrap ((2:Int) ^ vn)=(N:Int):=by rw [wrap_pow (by omega),hN];simp
 have hw2:wrap64 ((2:Int) ^ vn)=(N:Int):=by rw [←IntWalk.i64_left];exact hw1
 have HNN:=Lib.hid hN
 have HW1:=Lib.hid hw1
 have HW2:=Lib.hid hw2
 clear hN hw1 hw2
 obtain ⟨al,hal⟩:∃ al,al=N - 1:=⟨_,rfl⟩
 have HW3:=Lib.hid (show IntKind.i64.wrap ((N:Int) - 1)=(al:Int) by rw [IntWalk.i64_in _ (by omega)];omega)
 have HW4:=Lib.hid (show wrap64 ((N:Int) - 1)=(al:Int) by rw [←IntWalk.i64_left];exact HW3.out)
 have HAL:=Lib.hid (show al=2 ^ v.length - 1 by rw [hal,HNN.out,HLN.out])
 have HX:=Lib.hid (show K.blocks x.nd x.l x.s x.r v l=!((l.drop 0).any (K.opensAt x.nd x.l x.s x.r v al)) by
  unfold K.blocks
  rw [←HZ.out,HOK.out,HAL.out,List.drop_zero]
  have h0:(v.length == 0)=false:=by have:=HV0.out;rw [HLN.out] at this;simpa using this
  rw [h0]
  simp)
 have HLL:=Lib.hid hll
 clear hll hal
 obtain ⟨s0,s1,s2,s3,s4,s5⟩:=hS.cells
 have e1:=blk_cell hB 1 _ rfl
 go_wp2_with fail
 refine (rweight_any x.s x.B x.m x.d x.r V vn vc v _ (hx.below hb7).rooms hx.b2 (hx.below hb7).reqs hx.b3 hx.b4 (hV.below hb7) hvn).mono ?_
 obtain ⟨wt,hwt⟩:∃ wt,wt=T.weight x.s x.r v:=⟨_,rfl⟩
 rw [←hwt]
 rintro e w8 ⟨rfl,b78⟩
 have HWT:=Lib.hid hwt
 have hP:=hP.below b78
 have hS:=hS.below b78
 have hB:=blk_below b78 hB
 have hb8:=bel hb7 b78
 clear s0 s1 s2 s3 s4 s5 e1 hwt
 obtain ⟨hne,hck,hdp,-,-,-⟩:=K.ok31_parts HOK.out
 obtain ⟨-,⟨d0,-⟩,st0,st1,en1⟩:=K.check_parts hck
 obtain ⟨dp,hdpn⟩:∃ dp:Nat,x.s.depot=(dp:Int):=⟨x.s.depot.toNat,by omega⟩
 have HNE:=Lib.hid hne
 have HDP:=Lib.hid hdpn
 have hdpl:(dp:Int) < x.nd:=by rw [←hdpn];exact hdp
 clear hne hck hdp hdpn d0
 go_wp2_with fail
 go_loopw [10] (fun v10 wr=>∃ k:Nat,v10=.int .i64 k∧k≤ln∧Hid (K.blocks x.nd x.l x.s x.r v l=!((l.drop k).any (K.opensAt x.nd x.l x.s x.r v al)))∧Below w8.heap.size w8 wr) (fun v10 _=>ln - (intOf v10).toNat)
 case atStart=>exact ⟨0,rfl,Nat.zero_le _,HX.out,Below.refl _ _⟩
 case round =>
  clear HX
  obtain ⟨k,rfl,hk,hbk,hbr⟩:=hrel
  have hb:=bel hb8 hbr
  have b2:=blk_cell (blk_below hbr hB) 2 _ rfl
  by_cases hlt:k < ln
  ·obtain ⟨adk,y,rfl,hgy,c0,c1,c2⟩:=Labs.at_ (Lst.below hL hb) hlt
   have HBK:=Lib.hid (show K.blocks x.nd x.l x.s x.r v l=!(K.opensAt x.nd x.l x.s x.r v al y || (l.drop (k + 1)).any (K.opensAt x.nd x.l x.s x.r v al)) by rw [hbk.out,drop_any hgy])
   obtain ⟨m,i,hm,hi,hbit,hy⟩:=K.mem_labs HOK.out (by rw [←HLL.out];exact List.mem_of_getElem? hgy)
   subst hy
   dsimp only at c0 c1 c2
   rw [←HLN.out] at hi
   have hLb:=K.lab_bd (nd:=x.nd) (l:=x.l) (s:=x.s) (r:=x.r) (K.case31 HOK.out) m i
   obtain ⟨L,hL'⟩:∃ L,L=K.lab x.nd x.l x.s x.r v m i:=⟨_,rfl⟩
   have HBK':=HBK.out
   rw [←hL'] at c2 hLb HBK'
   have HBL:=Lib.hid HBK'
   clear hgy hm hbit HBK HBK' hL'
   obtain ⟨adv,kv,rfl,hkv,ci⟩:=(hV.below hb).at_ hi
   obtain ⟨d,dn,q,hkd,hd,hdq,hreq,hdn,hdn1,qs0,qs1⟩:=elem_at HOK.out hkv
   subst hkd
   have hdm:d < x.m:=by rw [hx.reqs.1];exact hd
   obtain ⟨adq,q2,hqB,hgq,hwq,e0,-⟩:=((hx.below hb).reqs).at_ hdm
   rw [hdq] at hgq
   injection hgq with hgq
   subst hgq
   rw [hdn] at e0
   obtain ⟨y,hy⟩:∃ y,y=K.way x.nd x.l (dn:Int) wt (dp:Int):=⟨_,rfl⟩
   have hyb:=K.way_bd x.nd x.l (dn:Int) wt (dp:Int)
   rw [←hy] at hyb
   have HY:=Lib.hid hy
   have HOP:=Lib.hid (show K.opensAt x.nd x.l x.s x.r v al ⟨m,i,L⟩=(((m:Int) == (al:Int)) && ((L != -1) && ((y != -1) && decide (L + y≤x.s.end_)))) by
    unfold K.opensAt
    dsimp only
    rw [Int.toNat_natCast,hkv,Option.getD_some,hreq,hdn,HAL.out,K.part_full,←HWT.out,HDP.out,←hy]
    rfl)
   obtain ⟨w9,hw9⟩:∃ w9:World,w9=wr.alloc (.cells #[.int .i64 (m:Int),.int .i64 (i:Int),.int .i64 L] 167):=⟨_,rfl⟩
   have b9:Below wr.heap.size wr w9:=by rw [hw9];exact (Below.refl _ _).alloc (Nat.le_refl _) _
   have hY9:w9.heap[wr.heap.size]? = some (.cells #[.int .i64 (m:Int),.int .i64 (i:Int),.int .i64 L] 167 (0,0)):=by rw [hw9];exact heap_alloc_new _ _
   have hbr9:=bel hbr b9
   have hb9:=bel hb8 hbr9
   have ci:=(b9.cell (cell_lt ci)).trans ci
   have e0:=(b9.cell (cell_lt e0)).trans e0
   have kk0:(0:Int)≤(k:Int):=by omega
   have kk1:(k:Int) < (ln:Int):=by omega
   have kk2:decide ((k:Int) < (ln:Int))=true:=decide_eq_true kk1
   have kk2n:decide (k < ln)=true:=decide_eq_true hlt
   have HQB:=Lib.hid hqB
   have HDM:=Lib.hid (show (d:Int) < (x.m:Int) by omega)
   clear hy hkv hd hdq hreq hdn hqB hwq qs0 qs1 hdm
   go_upto_region 8 with fail
   rw [←hw9]
   clear hw9 c0 c1 c2 b2 kk0 kk1 kk2 kk2n
   have l0:=blk_cell hY9 0 _ rfl
   have l1:=blk_cell hY9 1 _ rfl
   have l2:=blk_cell hY9 2 _ rfl
   have hB9:=blk_below hbr9 hB
   have f1:=blk_cell hB9 1 _ rfl
   have f2:=blk_cell hB9 2 _ rfl
   have hw1:=HW1.out
   have hw2:=HW2.out
   have hw3:=HW3.out
   have hw4:=HW4.out
   cases hma:((m:Int) == (al:Int))
   ·have HN:=Lib.hid (show K.blocks x.nd x.l x.s x.r v l=!((l.drop (k + 1)).any (K.opensAt x.nd x.l x.s x.r v al)) by rw [HBL.out,HOP.out,hma];rfl)
    have hman:(m == al)=false:=by have:¬ (m:Int)=(al:Int):=by simpa using hma
                                  simp;omega
    clear HBL HOP
    go_quiet (fail)
    clear hw1 hw2 hw3 hw4
    go_wp2_with fail
    go_roundw
    case rel=>exact ⟨k + 1,by go_num,hlt,HN.out,below_drewN hbr9 _⟩
    case measure=>simp [intOf];omega
   have hman:(m == al)=true:=by have:(m:Int)=(al:Int):=by simpa using hma
                                simp;omega
   by_cases hL0:0≤L
   rotate_left
   ·have g1:decide (0≤L)=false:=decide_eq_false hL0
    have HN:=Lib.hid (show K.blocks x.nd x.l x.s x.r v l=!((l.drop (k + 1)).any (K.opensAt x.nd x.l x.s x.r v al)) by
     have h1:(L != -1)=false:=by have:L=-1:=by omega
                                 simp [this]
     rw [HBL.out,HOP.out,h1];simp)
    clear HBL HOP
    go_quiet (fail)
    clear hw1 hw2 hw3 hw4
    go_wp2_with fail
    go_roundw
    case rel=>exact ⟨k + 1,by go_num,hlt,HN.out,below_drewN hbr9 _⟩
    case measure=>simp [intOf];omega
   have g1:decide (0≤L)=true:=decide_eq_true hL0
   have h1:(L != -1)=true:=by have:¬ L=-1:=by omega
                              simpa using this
   have HOP2:=Lib.hid (show K.opensAt x.nd x.l x.s x.r v al ⟨m,i,L⟩=((y != -1) && decide (L + y≤x.s.end_)) by rw [HOP.out,hma,h1];rfl)
   clear HOP h1
   go_quiet (fail)
   obtain ⟨wa,hwa⟩:∃ wa:World,wa=w9.drewN nq:=⟨_,rfl⟩
   rw [←hwa]
   have b9a:Below w9.heap.size w9 wa:=by rw [hwa];exact below_drewN (Below.refl _ _) _
   clear hwa hw1 hw2 hw3 hw4 l0 l1 l2 f1 f2 hma hman g1
   go_upto_region 9 with fail
   have hbra:=bel hbr9 b9a
   have hYa:=blk_below b9a hY9
   have l1:=blk_cell hYa 1 _ rfl
   have f1:=blk_cell (blk_below b9a hB9) 1 _ rfl
   have ci:=(b9a.cell (cell_lt ci)).trans ci
   have e0:=(b9a.cell (cell_lt e0)).trans e0
   have p0:=(hP.below hbra).c0
   have p1:=(hP.below hbra).c1
   have hSa:=hS.below hbra
   have s1:=hSa.cells.2.1
   rw [HDP.out] at s1
   have SD:∀ w',Below wa.heap.size wa w'→w'.cell? ⟨w.heap.size + 1,1,none⟩=some (.int .i64 (dp:Int)):=fun w' h=>(h.cell (cell_lt s1)).trans s1
   have hRd:∀ w',Below wa.heap.size wa w'→Roads w' x.A x.n x.l:=fun w' h=>Lst.below ((hx.below (bel hb8 hbra)).net) h
   have kk3:(0:Int)≤(i:Int):=by omega
   have kk4:(i:Int) < (vn:Int):=by omega
   have kk5:(0:Int)≤(d:Int):=by omega
   have kk6:(d:Int) < (x.m:Int):=HDM.out
   have hdn0:(0:Int)≤(dn:Int):=by omega
   have hdp0:(0:Int)≤(dp:Int):=by omega
   rw [HQB.out]
   have hmk2:∀ w',Below wa.heap.size wa w'→(fun w':World=>Below wa.heap.size wa w'∧w'.cell? ⟨w.heap.size,0,none⟩=some (.int .i64 x.nd)∧w'.cell? ⟨w.heap.size,1,none⟩=some (.slice x.A x.n x.c)∧w'.cell? ⟨w.heap.size + 1 + 1,1,none⟩=some (.slice (some adv) vn vc)∧w'.cell? ⟨wr.heap.size,1,none⟩=some (.int .i64 (i:Int))∧w'.cell? (adv.add i)=some (.int .i64 (d:Int))∧w'.cell? (adq.add (d * 7))=some (.int .i64 (dn:Int))∧w'.cell? ⟨w.heap.size + 1,1,none⟩=some (.int .i64 (dp:Int))) w':=fun w' h=>⟨h,(h.cell (cell_lt p0)).trans p0,(h.cell (cell_lt p1)).trans p1,(h.cell (cell_lt f1)).trans f1,(h.cell (cell_lt l1)).trans l1,(h.cell (cell_lt ci)).trans ci,(h.cell (cell_lt e0)).trans e0,(h.cell (cell_lt s1)).trans s1⟩
   have S0d:=hmk2 _ (Below.refl wa.heap.size wa).drew
   clear p0 p1 f1 l1 ci e0 s1 SD hSa
   refine wp_region_held_drew (S:=(fun w':World=>Below wa.heap.size wa w'∧w'.cell? ⟨w.heap.size,0,none⟩=some (.int .i64 x.nd)∧w'.cell? ⟨w.heap.size,1,none⟩=some (.slice x.A x.n x.c)∧w'.cell? ⟨w.heap.size + 1 + 1,1,none⟩=some (.slice (some adv) vn vc)∧w'.cell? ⟨wr.heap.size,1,none⟩=some (.int .i64 (i:Int))∧w'.cell? (adv.add i)=some (.int .i64 (d:Int))∧w'.cell? (adq.add (d * 7))=some (.int .i64 (dn:Int))∧w'.cell? ⟨w.heap.size + 1,1,none⟩=some (.int .i64 (dp:Int)))) (by kernel_rfl) S0d (fun hHeld=>?_)
   refine wpAnyH_take (i:=0) (oi:=?_) (v:=?_) ?_ (by kernel_rfl) (by kernel_rfl) (by kernel_rfl) ?_ ?_ (by assumption) ?_
   rotate_left 2
   ·(simp only [List.getElem?_toArray,List.getElem?_cons_zero];rfl)
   rotate_left
   ·(refine Or.inl ⟨by rfl,?_⟩;intro w hSw;(try dsimp only at hSw);go_simp;(try with_reducible rfl))
   rotate_left
   ·exact fun _ _ _ h=>h
   try simp only [Act.put,List.setIfInBounds_toArray,List.set_cons_zero,List.set_cons_succ]
   refine wpAnyH_take (i:=1) (oi:=?_) (v:=?_) ?_ (by kernel_rfl) (by kernel_rfl) (by kernel_rfl) ?_ ?_ (by assumption) ?_
   rotate_left 2
   ·(simp only [List.getElem?_toArray,List.getElem?_cons_succ,List.getElem?_cons_zero];rfl)
   rotate_left
   ·(refine Or.inl ⟨by rfl,?_⟩;intro w hSw;(try dsimp only at hSw);go_simp;(try with_reducible rfl))
   rotate_left
   ·exact fun _ _ _ h=>h
   try simp only [Act.put,List.setIfInBounds_toArray,List.set_cons_zero,List.set_cons_succ]
   refine wpAnyH_take (i:=2) (oi:=?_) (v:=?_) ?_ (by kernel_rfl) (by kernel_rfl) (by kernel_rfl) ?_ ?_ (by assumption) ?_
   rotate_left 2
   ·(simp only [List.getElem?_toArray,List.getElem?_cons_succ,List.getElem?_cons_zero];rfl)
   rotate_left
   ·(refine Or.inl ⟨by rfl,?_⟩;intro w hSw;(try dsimp only at hSw);go_simp;(try with_reducible rfl))
   rotate_left
   ·exact fun _ _ _ h=>h
   try simp only [Act.put,List.setIfInBounds_toArray,List.set_cons_zero,List.set_cons_succ]
   refine wpAnyH_take (i:=3) (oi:=?_) (v:=?_) ?_ (by kernel_rfl) (by kernel_rfl) (by kernel_rfl) ?_ ?_ (by assumption) ?_
   rotate_left 2
   ·(simp only [List.getElem?_toArray,List.getElem?_cons_succ,List.getElem?_cons_zero];rfl)
   rotate_left
   ·(refine Or.inl ⟨by rfl,?_⟩;intro w hSw;(try dsimp only at hSw);go_simp;(try with_reducible rfl))
   rotate_left
   ·exact fun _ _ _ h=>h
   try simp only [Act.put,List.setIfInBounds_toArray,List.set_cons_zero,List.set_cons_succ]
   refine wpAnyH_take (i:=4) (oi:=?_) (v:=?_) ?_ (by kernel_rfl) (by kernel_rfl) (by kernel_rfl) ?_ ?_ (by assumption) ?_
   rotate_left 2
   ·(simp only [List.getElem?_toArray,List.getElem?_cons_succ,List.getElem?_cons_zero];rfl)
   rotate_left
   ·(refine Or.inl ⟨by rfl,?_⟩;intro w hSw;(try dsimp only at hSw);go_simp;(try with_reducible rfl))
   rotate_left
   ·exact fun _ _ _ h=>h
   try simp only [Act.put,List.setIfInBounds_toArray,List.set_cons_zero,List.set_cons_succ]
   refine wpAnyH_take (i:=5) (oi:=?_) (v:=?_) ?_ (by kernel_rfl) (by kernel_rfl) (by kernel_rfl) ?_ ?_ (by assumption) ?_
   rotate_left 2
   ·(simp only [List.getElem?_toArray,List.getElem?_cons_succ,List.getElem?_cons_zero];rfl)
   rotate_left
   ·(refine Or.inl ⟨by rfl,?_⟩;intro w hSw;(try dsimp only at hSw);go_simp;(try with_reducible rfl))
   rotate_left
   ·exact fun _ _ _ h=>h
   try simp only [Act.put,List.setIfInBounds_toArray,List.set_cons_zero,List.set_cons_succ]
   refine wpAnyH_take (i:=6) (oi:=?_) (v:=?_) ?_ (by kernel_rfl) (by kernel_rfl) (by kernel_rfl) ?_ ?_ (by assumption) ?_
   rotate_left 2
   ·(simp only [List.getElem?_toArray,List.getElem?_cons_succ,List.getElem?_cons_zero];rfl)
   rotate_left
   ·(refine Or.inl ⟨by rfl,?_⟩;intro w hSw;(try dsimp only at hSw);go_simp;(try with_reducible rfl))
   rotate_left
   ·exact fun _ _ _ h=>h
   try simp only [Act.put,List.setIfInBounds_toArray,List.set_cons_zero,List.set_cons_succ]
   refine wpAnyH_take (i:=7) (oi:=?_) (v:=?_) ?_ (by kernel_rfl) (by kernel_rfl) (by kernel_rfl) ?_ ?_ (by assumption) ?_
   rotate_left 2
   ·(simp only [List.getElem?_toArray,List.getElem?_cons_succ,List.getElem?_cons_zero];rfl)
   rotate_left
   ·(refine Or.inl ⟨by rfl,?_⟩;intro w hSw;(try dsimp only at hSw);go_simp;(try with_reducible rfl))
   rotate_left
   ·exact fun _ _ _ h=>h
   try simp only [Act.put,List.setIfInBounds_toArray,List.set_cons_zero,List.set_cons_succ]
   refine wpAnyH_take (i:=8) (oi:=?_) (v:=?_) ?_ (by kernel_rfl) (by kernel_rfl) (by kernel_rfl) ?_ ?_ (by assumption) ?_
   rotate_left 2
   ·(simp only [List.getElem?_toArray,List.getElem?_cons_succ,List.getElem?_cons_zero];rfl)
   rotate_left
   ·(refine Or.inl ⟨by rfl,?_⟩;intro w hSw;(try dsimp only at hSw);go_simp;(try with_reducible rfl))
   rotate_left
   ·exact fun _ _ _ h=>h
   try simp only [Act.put,List.setIfInBounds_toArray,List.set_cons_zero,List.set_cons_succ]
   refine wpAnyH_take (i:=9) (oi:=?_) (v:=?_) ?_ (by kernel_rfl) (by kernel_rfl) (by kernel_rfl) ?_ ?_ (by assumption) ?_
   rotate_left 2
   ·(simp only [List.getElem?_toArray,List.getElem?_cons_succ,List.getElem?_cons_zero];rfl)
   rotate_left
   ·(refine Or.inl ⟨by rfl,?_⟩;intro w hSw;(try dsimp only at hSw);go_simp;(try with_reducible rfl))
   rotate_left
   ·exact fun _ _ _ h=>h
   try simp only [Act.put,List.setIfInBounds_toArray,List.set_cons_zero,List.set_cons_succ]
   refine wpAnyH_take (i:=10) (oi:=?_) (v:=?_) ?_ (by kernel_rfl) (by kernel_rfl) (by kernel_rfl) ?_ ?_ (by assumption) ?_
   rotate_left 2
   ·(simp only [List.getElem?_toArray,List.getElem?_cons_succ,List.getElem?_cons_zero];rfl)
   rotate_left
   ·(refine Or.inl ⟨by rfl,?_⟩;intro w hSw;(try dsimp only at hSw);go_simp;(try with_reducible rfl))
   rotate_left
   ·exact fun _ _ _ h=>h
   try simp only [Act.put,List.setIfInBounds_toArray,List.set_cons_zero,List.set_cons_succ]
   refine wpAnyH_take (i:=11) (oi:=?_) (v:=?_) ?_ (by kernel_rfl) (by kernel_rfl) (by kernel_rfl) ?_ ?_ (by assumption) ?_
   rotate_left 2
   ·(simp only [List.getElem?_toArray,List.getElem?_cons_succ,List.getElem?_cons_zero];rfl)
   rotate_left
   ·(refine Or.inl ⟨by rfl,?_⟩;intro w hSw;(try dsimp only at hSw);go_simp;(try with_reducible rfl))
   rotate_left
   ·exact fun _ _ _ h=>h
   try simp only [Act.put,List.setIfInBounds_toArray,List.set_cons_zero,List.set_cons_succ]
   refine wpAnyH_take (i:=13) (oi:=?_) (v:=?_) ?_ (by kernel_rfl) (by kernel_rfl) (by kernel_rfl) ?_ ?_ (by assumption) ?_
   rotate_left 2
   ·(simp only [List.getElem?_toArray,List.getElem?_cons_succ,List.getElem?_cons_zero];rfl)
   rotate_left
   ·(refine Or.inl ⟨by rfl,?_⟩;intro w hSw;(try dsimp only at hSw);go_simp;(try with_reducible rfl))
   rotate_left
   ·exact fun _ _ _ h=>h
   try simp only [Act.put,List.setIfInBounds_toArray,List.set_cons_zero,List.set_cons_succ]
   refine wpAnyH_take (i:=14) (oi:=?_) (v:=?_) ?_ (by kernel_rfl) (by kernel_rfl) (by kernel_rfl) ?_ ?_ (by assumption) ?_
   rotate_left 2
   ·(simp only [List.getElem?_toArray,List.getElem?_cons_succ,List.getElem?_cons_zero];rfl)
   rotate_left
   ·(refine Or.inl ⟨by rfl,?_⟩;intro w hSw;(try dsimp only at hSw);go_simp;(try with_reducible rfl))
   rotate_left
   ·exact fun _ _ _ h=>h
   try simp only [Act.put,List.setIfInBounds_toArray,List.set_cons_zero,List.set_cons_succ]
   refine wpAnyH_ready (rs:=[12]) (by kernel_rfl) (by simp) ?_
   refine AllReadyH.cons (o:=?_) ?_ (fun K hK=>?_) AllReadyH.nil
   rotate_left
   ·(simp only [List.getElem?_toArray,List.getElem?_cons_succ,List.getElem?_cons_zero];rfl)
   go_simp
   refine (rtimes_any x.nd x.A x.n x.c x.l (dn:Int) wt _ (hRd _ (Below.refl _ _).drew) hx.b1).mono ?_
   rintro e wy ⟨⟨TA,yn,yc,rfl,hTI⟩,bwy⟩
   obtain ⟨ady,rfl,cy,j4⟩:=way_read hTI HNE.out ⟨hdn0,hdn1⟩ hdpl
   rw [←HY.out] at cy
   have bay:Below wa.heap.size wa wy:=bel (Below.refl _ _).drew bwy
   have S1:=hmk2 _ bay
   try dsimp only
   refine hK.out _ _ S1 (fun hHeld=>?_)
   clear hK K
   try simp only [Act.put,List.setIfInBounds_toArray,List.set_cons_zero,List.set_cons_succ]
   refine wpAnyH_take (i:=15) (oi:=?_) (v:=?_) ?_ (by kernel_rfl) (by kernel_rfl) (by kernel_rfl) ?_ ?_ (by assumption) ?_
   rotate_left 2
   ·(simp only [List.getElem?_toArray,List.getElem?_cons_succ,List.getElem?_cons_zero];rfl)
   rotate_left
   ·(refine Or.inl ⟨by rfl,?_⟩;intro w hSw;(try dsimp only at hSw);go_simp;(try with_reducible rfl))
   rotate_left
   ·exact fun _ _ _ h=>h
   try simp only [Act.put,List.setIfInBounds_toArray,List.set_cons_zero,List.set_cons_succ]
   refine wpAnyH_ready (rs:=[16]) (by kernel_rfl) (by simp) ?_
   refine AllReadyH.cons (o:=?_) ?_ (fun K hK=>?_) AllReadyH.nil
   rotate_left
   ·(simp only [List.getElem?_toArray,List.getElem?_cons_succ,List.getElem?_cons_zero];rfl)
   go_simp
   try dsimp only
   refine hK.out _ _ S1 (fun hHeld=>?_)
   clear hK K
   try simp only [Act.put,List.setIfInBounds_toArray,List.set_cons_zero,List.set_cons_succ]
   refine wpAnyH_take (i:=17) (oi:=?_) (v:=?_) ?_ (by kernel_rfl) (by kernel_rfl) (by kernel_rfl) ?_ ?_ (by assumption) ?_
   rotate_left 2
   ·(simp only [List.getElem?_toArray,List.getElem?_cons_succ,List.getElem?_cons_zero];rfl)
   rotate_left
   ·(refine Or.inl ⟨by rfl,?_⟩;intro w hSw;(try dsimp only at hSw);go_simp;(try with_reducible rfl))
   rotate_left
   ·exact fun _ _ _ h=>h
   try simp only [Act.put,List.setIfInBounds_toArray,List.set_cons_zero,List.set_cons_succ]
   refine wpAnyH_done (by kernel_rfl) ?_ _
   clear S0d S1 hmk2 hRd cy hTI bwy j4
   have hbry:Below w8.heap.size w8 wy:=bel hbra bay
   have hbry2:=bel hb8 hbry
   have l2:=blk_cell (blk_below bay hYa) 2 _ rfl
   have s3:=((hS.below hbry).cells).2.2.2.1
   by_cases hy0:0≤y
   rotate_left
   ·have g2:decide (0≤y)=false:=decide_eq_false hy0
    have HN:=Lib.hid (show K.blocks x.nd x.l x.s x.r v l=!((l.drop (k + 1)).any (K.opensAt x.nd x.l x.s x.r v al)) by
     have h1:(y != -1)=false:=by have:y=-1:=by omega
                                 simp [this]
     rw [HBL.out,HOP2.out,h1];simp)
    go_wp2_with fail
    rw [←HQB.out]
    go_roundw
    case rel=>(go_light;exact ⟨_,_,⟨k + 1,rfl,hlt,HN.out⟩,rfl,rfl,by go_num,rfl⟩)
    case measure=>(go_light;simp [intOf] <;> omega)
   have g2:decide (0≤y)=true:=decide_eq_true hy0
   have hsum:IntKind.i64.wrap (L + y)=L + y:=IntWalk.i64_in _ (by omega)
   have hsum2:wrap64 (L + y)=L + y:=by rw [←IntWalk.i64_left];exact hsum
   have h1:(y != -1)=true:=by have:¬ y=-1:=by omega
                              simpa using this
   have HOP3:=Lib.hid (show K.opensAt x.nd x.l x.s x.r v al ⟨m,i,L⟩=decide (L + y≤x.s.end_) by rw [HOP2.out,h1];rfl)
   clear h1
   by_cases hle:L + y≤x.s.end_
   ·have g3:decide (L + y≤x.s.end_)=true:=decide_eq_true hle
    have HN:=Lib.hid (show K.blocks x.nd x.l x.s x.r v l=false by rw [HBL.out,HOP3.out,g3];rfl)
    go_wp2_with fail
    go_ret
    exact ⟨ret_b HN.out.symm,hbry2⟩
   ·have g3:decide (L + y≤x.s.end_)=false:=decide_eq_false hle
    have HN:=Lib.hid (show K.blocks x.nd x.l x.s x.r v l=!((l.drop (k + 1)).any (K.opensAt x.nd x.l x.s x.r v al)) by rw [HBL.out,HOP3.out,g3];rfl)
    go_wp2_with fail
    clear hsum hsum2
    rw [←HQB.out]
    go_roundw
    case rel=>(go_light;exact ⟨_,_,⟨k + 1,rfl,hlt,HN.out⟩,rfl,rfl,by go_num,rfl⟩)
    case measure=>(go_light;simp [intOf] <;> omega)
  ·have HN:=Lib.hid (show K.blocks x.nd x.l x.s x.r v l=true by rw [hbk.out,List.drop_eq_nil_of_le (by rw [←hL.1];omega)];rfl)
   have kk2:decide ((k:Int) < (ln:Int))=false:=by simp;omega
   have kk2n:decide (k < ln)=false:=by simp;omega
   go_wp2_with fail
   go_ret
   exact ⟨ret_b HN.out.symm,hb⟩
namespace A
theorem share_app (s:Nat):∀ (d e:List Nat) (i:Int),share (d ++ e) s i=share d s i ++ share e s (i + d.length)
 | [],e,i=>by simp [share]
 | x :: d,e,i=>by
  rw [List.cons_append,share,share,share_app s d e (i + 1),List.length_cons]
  have h:i + 1 + (d.length:Int)=i + ((d.length + 1:Nat):Int):=by omega
  rw [h]
  split <;> rfl
def next (m:Nat):List Nat→Option (List Nat)
 | []=>none
 | x :: d=>match next m d with
  | some d'=>some (x :: d')
  | none=>if x + 1 < m then some ((x + 1) :: List.replicate d.length 0) else none
def Chain (m:Nat) (L:List (List Nat)) (z:Option (List Nat)):Prop:=∀ pre x post,L=pre ++ x :: post→next m x=(post.head?).or z
theorem chain_nil (m:Nat) (z:Option (List Nat)):Chain m [] z:=fun pre x post h=>by simp at h
theorem chain_app {m:Nat}:∀ {L1 L2:List (List Nat)} {z:Option (List Nat)},Chain m L1 ((L2.head?).or z)→Chain m L2 z→Chain m (L1 ++ L2) z:=by
 intro L1 L2 z h1 h2 pre x post h
 rcases List.append_eq_append_iff.1 h with ⟨a,e1,e2⟩ | ⟨a,e1,e2⟩
 ·-- pre=L1 ++ a,L2=a ++ x :: post
  exact h2 a x post e2
 ·-- L1=pre ++ a,x :: post=a ++ L2
  cases a with
  | nil =>
   rw [List.nil_append] at e2
   exact h2 [] x post e2.symm
  | cons b a =>
   rw [List.cons_append] at e2
   injection e2 with e3 e4
   subst e3
   have:=h1 pre x a e1
   rw [this,e4]
   cases a with
   | nil=>rfl
   | cons c a=>rfl
theorem exts_head {m:Nat} (hm:0 < m):∀ k,(exts m k).head? = some (List.replicate k 0)
 | 0=>rfl
 | k + 1=>by
  obtain ⟨m',rfl⟩:∃ m',m=m' + 1:=⟨m - 1,by omega⟩
  rw [exts,List.range_succ_eq_map,List.flatMap_cons,List.head?_append,List.head?_map,exts_head hm k]
  rfl
theorem chain_exts {m:Nat} (hm:0 < m):∀ k,Chain m (exts m k) none
 | 0=>fun pre x post h=>by
  cases pre with
  | nil =>
   rw [exts,List.nil_append] at h
   injection h with h1 h2
   subst h1 h2
   rfl
  | cons b pre =>
   rw [exts,List.cons_append] at h
   injection h with h1 h2
   exact absurd h2 (by simp)
 | k + 1=>by
  have ih:=chain_exts hm k
  have hb:∀ s,Chain m ((exts m k).map (s :: ·)) (if s + 1 < m then some ((s + 1) :: List.replicate k 0) else none):=fun s pre x post h=>by
   obtain ⟨L1,L2,e0,e1,e2⟩:=List.map_eq_append_iff.1 h
   cases L2 with
   | nil=>cases e2
   | cons y L2 =>
    rw [List.map_cons] at e2
    injection e2 with e3 e4
    subst e3 e4
    have hy:=ih L1 y L2 e0
    have hyl:y.length=k:=(mem_exts.1 (show y ∈ exts m k by rw [e0];simp)).1
    rw [next,hy,hyl]
    cases L2 with
    | nil=>rfl
    | cons c L2=>rfl
  have hr:∀ n s,s + n=m→Chain m ((List.range' s n).flatMap fun s=>(exts m k).map (s :: ·)) none:=by
   intro n
   induction n with
   | zero=>intro s _;exact chain_nil m none
   | succ n ihn =>
    intro s hs
    rw [List.range'_succ,List.flatMap_cons]
    refine chain_app ?_ (ihn (s + 1) (by omega))
    have h1:=hb s
    have h2:(if s + 1 < m then some ((s + 1) :: List.replicate k 0) else none)=(((List.range' (s + 1) n).flatMap fun s=>(exts m k).map (s :: ·)).head?).or none:=by
     cases n with
     | zero=>rw [if_neg (by omega)];rfl
     | succ n =>
      rw [if_pos (by omega),List.range'_succ,List.flatMap_cons,List.head?_append,List.head?_map,exts_head hm k]
      rfl
    rw [←h2]
    exact h1
  have:=hr m 0 (by omega)
  rw [exts,List.range_eq_range']
  exact this
theorem next_exts {m k j:Nat} (hm:0 < m) {d:List Nat} (h:(exts m k)[j]? = some d):next m d=(exts m k)[j + 1]?:=by
 obtain ⟨hj,e⟩:=List.getElem?_eq_some_iff.1 h
 have:=chain_exts hm k ((exts m k).take j) d ((exts m k).drop (j + 1)) (by rw [←e,←List.drop_eq_getElem_cons hj,List.take_append_drop])
 rw [this,List.head?_drop]
 cases (exts m k)[j + 1]? <;> rfl
theorem next_at {m:Nat}:∀ (d:List Nat) (i:Nat),next m (d.drop (i + 1))=none→∀ x,d[i]? = some x→next m (d.drop i)=if x + 1 < m then some ((x + 1) :: List.replicate (d.length - (i + 1)) 0) else none:=by
 intro d i h x hx
 obtain ⟨hi,e⟩:=List.getElem?_eq_some_iff.1 hx
 rw [List.drop_eq_getElem_cons hi,e,next,h,List.length_drop]
theorem next_pre {m:Nat}:∀ (pre d d':List Nat),next m d=some d'→next m (pre ++ d)=some (pre ++ d')
 | [],d,d',h=>h
 | x :: pre,d,d',h=>by rw [List.cons_append,next,next_pre pre d d' h];rfl
end A
def K.nat (d:List Nat):List Int:=d.map fun (x:Nat)=>(x:Int)
def RetOwn (w w':World) (l:List Int) (e:Ending):Prop:=(∃ A n c,e=.returned (.slice A n c)∧Ints w' A n l∧n≤c)∧Below w.heap.size w w'
theorem own_cap {w:World} {base:Nat} {e:TypeId} {size n n' c:Nat} {A:Option Addr} {xs:List Value} (h:w.ownsRow base e size (.slice A n' c) n xs):n'≤c:=by
 obtain ⟨hl,⟨h1,h2⟩ | ⟨g,cap,cur,h1,h2,h3,h4,h5⟩⟩:=h
 ·injection h1 with e1 e2 e3
  omega
 ·injection h1 with e1 e2 e3
  omega
theorem K.nat_get {d:List Nat} {k:Nat} {i:Int} (h:(K.nat d)[k]? = some i):∃ x:Nat,d[k]? = some x∧i=(x:Int):=by
 unfold K.nat at h
 rw [List.getElem?_map] at h
 cases hd:d[k]? with
 | none=>rw [hd] at h;cases h
 | some x =>
  rw [hd] at h
  injection h with h
  exact ⟨x,rfl,h.symm⟩
theorem A.share_take {d:List Nat} {k x:Nat} (s:Nat) (h:d[k]? = some x):A.share (d.take (k + 1)) s 0=A.share (d.take k) s 0 ++ (if x=s then [(k:Int)] else []):=by
 obtain ⟨hk,e⟩:=List.getElem?_eq_some_iff.1 h
 rw [List.take_succ_eq_append_getElem hk,e,A.share_app]
 have hl:(d.take k).length=k:=by rw [List.length_take];omega
 rw [hl,A.share,A.share,Int.zero_add]
theorem A.share_len (s:Nat):∀ (d:List Nat) (i:Int),(A.share d s i).length≤d.length
 | [],_=>Nat.le_refl _
 | x :: d,i=>by
  rw [A.share,List.length_cons]
  have:=A.share_len s d (i + 1)
  split
  ·rw [List.length_cons];omega
  ·omega
set_option maxRecDepth 100000 in
set_option maxHeartbeats 8000000 in
theorem share22_any (A0:Option Addr) (n c:Nat) (d:List Nat) (s:Nat) (w:World) (hl:Ints w A0 n (K.nat d)) (hn:n≤1000) :
  Calls Tryz.prog 73 #[.slice A0 n c,.int .i64 (s:Int)] w fun e w'=>RetOwn w w' (A.share d s 0) e:=by
 have HLN:=Lib.hid (show n=d.length by have:=hl.1;rw [this];exact List.length_map _)
 go_enter Tryz.func73,Tryz.ntmps73
 go_wp2_with fail
 go_loopw [5,6] (fun v5 v6 wr=>∃ (k:Nat),v6=.int .i64 k∧k≤n∧wr.ownsRow w.heap.size 3 1 v5 (A.share (d.take k) s 0).length (intCells (A.share (d.take k) s 0))∧Below w.heap.size w wr) (fun _ v6 _=>n - (intOf v6).toNat)
 case atStart=>exact ⟨0,rfl,by omega,World.ownsRow_nil _ _ _ _,Below.refl _ _⟩
 case round =>
  obtain ⟨k,rfl,hk,hown,hbr⟩:=hrel
  by_cases hlt:k < n
  ·obtain ⟨adv,i,rfl,hi,ci⟩:=(hl.below hbr).at_ hlt
   obtain ⟨x,hx,rfl⟩:=K.nat_get hi
   have k0:(0:Int)≤(k:Int):=by omega
   have k1:(k:Int) < (n:Int):=by omega
   have HT:=Lib.hid (A.share_take s hx)
   have hpl:(A.share (d.take k) s 0).length≤1000:=by
    have:=A.share_len s (d.take k) 0
    rw [List.length_take] at this
    omega
   clear hi hx
   by_cases hxs:x=s
   rotate_left
   ·have hb1:((x:Int) == (s:Int))=false:=by simp;omega
    have hb2:decide ((x:Int)=(s:Int))=false:=by simp;omega
    have hb3:(x == s)=false:=by simp;omega
    have hb4:decide (x=s)=false:=by simp;omega
    have HN:=Lib.hid (show A.share (d.take (k + 1)) s 0=A.share (d.take k) s 0 by rw [HT.out,if_neg hxs,List.append_nil])
    clear hxs
    go_wp2_with fail
    go_roundw
    case rel=>exact ⟨k + 1,by go_num,by omega,by rw [HN.out];exact hown,hbr⟩
    case measure=>simp [intOf];omega
   ·have HN:=Lib.hid (show A.share (d.take (k + 1)) s 0=A.share (d.take k) s 0 ++ [(k:Int)] by rw [HT.out,if_pos hxs])
    subst hxs
    have ha:Below wr.heap.size wr (wr.alloc (.cells #[.int .i64 k] 3)):=(Below.refl _ _).alloc (Nat.le_refl _) _
    have hown2:=own_below hown ha
    have hs2:w.heap.size≤(wr.alloc (.cells #[.int .i64 k] 3)).heap.size:=Nat.le_trans hbr.size ha.size
    go_wp2_with (at_builtin;refine app_int rfl (.tmp 19) (.tmp 21) rfl w.heap.size u5 (A.share (d.take k) x 0).length (A.share (d.take k) x 0) rfl hown2 wr.heap.size (k:Int) rfl (heap_alloc_at _ _ _ rfl) (by omega) hs2 ?_;intro tv' w6 hown6 hgrow6 hat6)
    have b6:=below_own2 (bel hbr ha) hgrow6 (fun g e=>(hown.lt g e).1)
    have HS:=Lib.hid (show (A.share (d.take k) x 0).length + 1=(A.share (d.take (k + 1)) x 0).length by rw [HN.out,List.length_append];rfl)
    rw [←HN.out,HS.out] at hown6
    clear hgrow6 hat6 hown2 hown
    go_roundw
    case rel=>exact ⟨k + 1,by go_num,by omega,hown6,b6⟩
    case measure=>simp [intOf];omega
  ·have HN:=Lib.hid (show d.take k=d from List.take_of_length_le (by rw [←HLN.out];omega))
   rw [HN.out] at hown
   have hd:decide ((k:Int) < (n:Int))=false:=by simp;omega
   have hd2:decide (k < n)=false:=by simp;omega
   have hown':=hown
   obtain ⟨A9,c9,rfl,hI⟩:=own_ints hown rfl
   have hc9:=own_cap hown'
   clear hlt
   go_wp2_with fail
   go_ret
   exact ⟨⟨_,_,_,rfl,hI,hc9⟩,hbr⟩
def Row3 (w:World) (g:Nat) (l:List Int):Prop:=∃ cur:Array Value,w.heap[g]? = some (.cells cur 3 (0,0))∧∀ (i:Nat) (x:Int),l[i]? = some x→cur[i]? = some (.int .i64 x)
theorem Row3.cell {w:World} {g:Nat} {l:List Int} (h:Row3 w g l) {i:Nat} {x:Int} (hx:l[i]? = some x):w.cell? ⟨g,i,none⟩=some (.int .i64 x):=by
 obtain ⟨cur,h1,h2⟩:=h
 exact blk_cell h1 i _ (h2 i x hx)
theorem Row3.free {w:World} {g:Nat} {l:List Int} (h:Row3 w g l) (i:Nat):w.frozen? ⟨g,i,none⟩=false:=by
 obtain ⟨cur,h1,-⟩:=h
 exact blk_free h1 i
theorem Row3.set {w:World} {g:Nat} {l:List Int} (h:Row3 w g l) {k:Nat} (hk:k < l.length) (x:Int):Row3 (w.setCell ⟨g,k,none⟩ (.int .i64 x)) g (l.set k x):=by
 obtain ⟨cur,h1,h2⟩:=h
 refine ⟨_,blk_set h1 k _,fun i y hy=>?_⟩
 have hkc:k < cur.size:=(Array.getElem?_eq_some_iff.1 (h2 k _ (List.getElem?_eq_getElem hk))).1
 rw [List.getElem?_set] at hy
 rw [Array.getElem?_setIfInBounds]
 by_cases e:k=i
 ·subst e
  rw [if_pos rfl,if_pos hk] at hy
  injection hy with hy
  rw [if_pos rfl,if_pos hkc,hy]
 ·rw [if_neg e] at hy
  rw [if_neg e]
  exact h2 i y hy
theorem Row3.ints {w:World} {g:Nat} {l:List Int} (h:Row3 w g l):Ints w (some ⟨g,0,none⟩) l.length l:=by
 obtain ⟨cur,h1,h2⟩:=h
 refine ⟨rfl,by simp [intCells],fun _=>⟨_,rfl,fun j u hu=>?_⟩⟩
 rw [intCells,List.getElem?_map] at hu
 obtain ⟨y,hy,rfl⟩:=Option.map_eq_some_iff.1 hu
 rw [add_zero_block]
 exact blk_cell h1 j _ (h2 j y hy)
theorem row3_of {w:World} {base n c:Nat} {A2:Option Addr} {l:List Int} (h:w.ownsRow base 3 1 (.slice A2 n c) n (intCells l)) (h0:0 < n):∃ g,A2=some ⟨g,0,none⟩∧base≤g∧Row3 w g l:=by
 obtain ⟨hl,⟨e,e2⟩ | ⟨g,cap,cur,e,hb,hh,hnc,-,hsz,ht⟩⟩:=h
 ·omega
 ·injection e with e1 e2 e3
  refine ⟨g,e1,hb,cur,hh,fun i x hx=>?_⟩
  have hu:(intCells l)[i]? = some (.int .i64 x):=by rw [intCells,List.getElem?_map,hx];rfl
  rw [←ht,List.getElem?_take] at hu
  split at hu
  ·simpa using hu
  ·cases hu
theorem set_mid (a z:List Int) (x y:Int):((a ++ [x]) ++ z).set a.length y=a ++ y :: z:=by
 rw [List.append_assoc,List.set_append_right _ _ (Nat.le_refl _),Nat.sub_self]
 rfl
def RetNext (w w':World) (p:Option (List Nat)) (e:Ending):Prop :=
 ((p=none∧e=.returned (.tuple #[.slice none 0 0,.bool false]))∨∃ d A n c,p=some d∧e=.returned (.tuple #[.slice A n c,.bool true])∧Ints w' A n (K.nat d)∧n≤c)∧Below w.heap.size w w'
def K.low (d:List Nat) (n j:Nat):List Int:=K.nat (d.take j) ++ List.replicate (n - j) 0
theorem K.low_get {d:List Nat} {n i x:Nat} (h:d[i]? = some x):(K.low d n (i + 1))[i]? = some (x:Int):=by
 have hk:=(List.getElem?_eq_some_iff.1 h).1
 unfold K.low K.nat
 rw [List.getElem?_append_left (by rw [List.length_map,List.length_take];omega),List.getElem?_map,List.getElem?_take,if_pos (by omega),h]
 rfl
theorem K.low_len {d:List Nat} {n j:Nat} (hn:n=d.length) (hj:j≤n):(K.low d n j).length=n:=by
 unfold K.low K.nat
 rw [List.length_append,List.length_map,List.length_take,List.length_replicate]
 omega
theorem K.low_set {d:List Nat} {n i x:Nat} (h:d[i]? = some x) (y:Int):(K.low d n (i + 1)).set i y=K.nat (d.take i) ++ y :: List.replicate (n - (i + 1)) 0:=by
 have hk:=(List.getElem?_eq_some_iff.1 h).1
 have hl:(K.nat (d.take i)).length=i:=by unfold K.nat;rw [List.length_map,List.length_take];omega
 have:=set_mid (K.nat (d.take i)) (List.replicate (n - (i + 1)) 0) (x:Int) y
 rw [hl] at this
 rw [←this]
 unfold K.low
 rw [take_snoc h]
 unfold K.nat
 rw [List.map_append]
 rfl
theorem K.low_zero {d:List Nat} {n i x:Nat} (h:d[i]? = some x) (hn:n=d.length):(K.low d n (i + 1)).set i 0=K.low d n i:=by
 have hk:=(List.getElem?_eq_some_iff.1 h).1
 rw [K.low_set h,K.low]
 congr 1
 rw [show n - i=(n - (i + 1)) + 1 by omega]
 rfl
set_option maxRecDepth 100000 in
set_option maxHeartbeats 8000000 in
theorem next20_any (A0:Option Addr) (n c:Nat) (d:List Nat) (m:Nat) (w:World) (hl:Ints w A0 n (K.nat d)) (hn:n≤1000) (hd:∀ s ∈ d,s < m) (hm:m≤1000) :
  Calls Tryz.prog 71 #[.slice A0 n c,.int .i64 (m:Int)] w fun e w'=>RetNext w w' (A.next m d) e:=by
 have HLN:=Lib.hid (show n=d.length by have:=hl.1;rw [this];exact List.length_map _)
 obtain ⟨i0,hi,hz0,hz1,hz2⟩:=info_parts Tryz.info3
 obtain ⟨w1,hw1⟩:∃ w1:World,w1=w.alloc (.cells #[] 3):=⟨_,rfl⟩
 have b1:Below w.heap.size w w1:=by rw [hw1];exact (Below.refl _ _).alloc (Nat.le_refl _) _
 have hlit:w1.ownsRow w.heap.size 3 1 (.slice (some ⟨w.heap.size,0,none⟩) 0 0) 0 []:=by rw [hw1];exact own_lit (heap_alloc_new w (.cells #[] 3)) (Nat.le_refl _)
 have hrd:=(hl.below b1).2
 have hsz:=b1.size
 have hwr:IntKind.i64.wrap ((n:Int) - 1)=(n:Int) - 1:=IntWalk.i64_in _ (by omega)
 go_enter Tryz.func71,Tryz.ntmps71
 go_wp2_with (first
  | (at_builtin;rw [←hw1];refine wp_append_rd rfl (.tmp 8) (.tmp 9) 48 rfl w.heap.size 3 i0 (.int .i64 0) 1 8 Tryz.underlying48 hi hz0 hz1 hz2 rfl (by decide) (.slice (some ⟨w.heap.size,0,none⟩) 0 0) 0 [] rfl hlit A0 n c (intCells (K.nat d)) rfl hrd (intCells_one _) (by simp only [maxLen];omega) (by omega) hsz ?_;intro v1 w2 hown2 hgrow2 _;rw [Nat.zero_add,List.nil_append] at hown2;obtain ⟨A2,c2,rfl,-,-⟩:=own_form hown2;have hb2:=below_own2 b1 hgrow2 (lit_block (Nat.le_refl _)))
  | fail)
 have hc2:=own_cap hown2
 clear hlit hrd hsz hw1 b1 hgrow2 hi hz0 hz1 hz2
 go_loopw [7] (fun v7 wr=>∃ (j:Nat) (z:Int),v7=.int .i64 z∧z=(j:Int) - 1∧j≤n∧(0 < n→∃ g,A2=some ⟨g,0,none⟩∧w.heap.size≤g∧Row3 wr g (K.low d n j))∧Hid (A.next m (d.drop j)=none)∧Below w.heap.size w wr) (fun v7 _=>(intOf v7 + 1).toNat)
 case atStart =>
  refine ⟨n,_,rfl,(by simp),Nat.le_refl _,fun h0=>?_,(by show _=_;rw [List.drop_eq_nil_of_le (by rw [←HLN.out];exact Nat.le_refl _)];rfl),hb2⟩
  obtain ⟨g,e1,e2,e3⟩:=row3_of hown2 h0
  refine ⟨g,e1,e2,?_⟩
  unfold K.low
  rw [List.take_of_length_le (by rw [←HLN.out];exact Nat.le_refl _),Nat.sub_self,List.replicate_zero,List.append_nil]
  exact e3
 case round =>
  clear hown2 hb2
  obtain ⟨j,z,rfl,hz,hj,hrow,hnx,hbr⟩:=hrel
  cases j with
  | zero =>
   have hzz:z=-1:=by omega
   subst hzz
   have HX:=Lib.hid (show A.next m d=none by have:=hnx.out;rwa [List.drop_zero] at this)
   clear hz hrow
   go_wp2_with fail
   go_ret2
   exact ⟨.inl ⟨HX.out,rfl⟩,hbr⟩
  | succ i =>
   have hzz:z=(i:Int):=by omega
   subst hzz
   obtain ⟨g,rfl,hg,hR⟩:=hrow (by omega)
   have hid:i < d.length:=by rw [←HLN.out];omega
   have hx:d[i]? = some d[i]:=List.getElem?_eq_getElem hid
   obtain ⟨x,hxe⟩:∃ x,x=d[i]:=⟨_,rfl⟩
   rw [←hxe] at hx
   have hxm:x < m:=hd x (List.mem_of_getElem? hx)
   have hcell:=hR.cell (K.low_get (n:=n) hx)
   have hfree:=hR.free i
   have hlow:=K.low_len HLN.out hj
   have i0:(0:Int)≤(i:Int):=by omega
   have i1:(i:Int) < (n:Int):=by omega
   have hw1:IntKind.i64.wrap ((x:Int) + 1)=(x:Int) + 1:=IntWalk.i64_in _ (by omega)
   have hw2:IntKind.i64.wrap ((i:Int) - 1)=(i:Int) - 1:=IntWalk.i64_in _ (by omega)
   have hge:decide (0≤(i:Int))=true:=by simp
   have HNX:=Lib.hid (A.next_at d i hnx.out x hx)
   have HX:=Lib.hid hx
   have HD:=Lib.hid (show d=d.take i ++ d.drop i from (List.take_append_drop i d).symm)
   have hB1:∀ u:Int,Below w.heap.size w (wr.setCell ⟨g,i,none⟩ (.int .i64 u)):=fun u=>hbr.setCell (p:=⟨g,i,none⟩) hg _
   have hRs:∀ u:Int,Row3 (wr.setCell ⟨g,i,none⟩ (.int .i64 u)) g ((K.low d n (i + 1)).set i u):=fun u=>hR.set (by rw [hlow];omega) u
   clear hz hx hxe hid hR hlow
   by_cases hlt:x + 1 < m
   ·have hd1:decide ((x:Int) + 1 < (m:Int))=true:=by simp;omega
    have HN:=Lib.hid (show A.next m d=some (d.take i ++ (x + 1) :: List.replicate (n - (i + 1)) 0) by
     have h9:=HNX.out
     rw [if_pos hlt,←HLN.out] at h9
     rw [HD.out,A.next_pre _ _ _ h9,←HD.out])
    have hI:=(hRs ((x:Int) + 1)).ints
    rw [K.low_set HX.out] at hI
    have hln:(K.nat (d.take i) ++ ((x:Int) + 1) :: List.replicate (n - (i + 1)) 0).length=n:=by
     have h8:=HLN.out
     unfold K.nat
     rw [List.length_append,List.length_map,List.length_take,List.length_cons,List.length_replicate]
     omega
    rw [hln] at hI
    have hI2:Ints (wr.setCell ⟨g,i,none⟩ (.int .i64 ((x:Int) + 1))) (some ⟨g,0,none⟩) n (K.nat (d.take i ++ (x + 1) :: List.replicate (n - (i + 1)) 0)):=by
     have e9:K.nat (d.take i ++ (x + 1) :: List.replicate (n - (i + 1)) 0)=K.nat (d.take i) ++ ((x:Int) + 1) :: List.replicate (n - (i + 1)) 0:=by
      unfold K.nat
      rw [List.map_append,List.map_cons,List.map_replicate]
      rfl
     rw [e9]
     exact hI
    have hbX:=hB1 ((x:Int) + 1)
    clear hI hln hlt hRs hB1 HNX
    go_wp2_with fail
    go_ret2
    exact ⟨.inr ⟨_,_,_,_,HN.out,rfl,hI2,hc2⟩,hbX⟩
   ·have hd1:decide ((x:Int) + 1 < (m:Int))=false:=by simp;omega
    have HN:=Lib.hid (show A.next m (d.drop i)=none by rw [HNX.out,if_neg hlt])
    have hR0:=hRs 0
    rw [K.low_zero HX.out HLN.out] at hR0
    have hbX:=hB1 0
    clear hlt hRs hB1 HNX
    go_wp2_with fail
    go_roundw
    case rel=>(go_light;exact ⟨i,_,rfl,(by simp),by omega,fun _=>⟨g,rfl,hg,hR0⟩,HN.out,hbX⟩)
    case measure=>(go_light;simp [intOf])
namespace A
def val (m:Nat):List Nat→Nat
 | []=>0
 | x :: d=>x * m ^ d.length + val m d
theorem val_zero (m:Nat):∀ n,val m (List.replicate n 0)=0
 | 0=>rfl
 | n + 1=>by rw [List.replicate_succ,val,val_zero m n,Nat.zero_mul]
theorem val_lt {m:Nat}:∀ {d:List Nat},(∀ s ∈ d,s < m)→val m d < m ^ d.length
 | [],_=>by simp [val]
 | x :: d,h=>by
  have h1:=h x (List.mem_cons_self ..)
  have h2:=val_lt fun s hs=>h s (List.mem_cons_of_mem _ hs)
  rw [val,List.length_cons,Nat.pow_succ]
  have h3:(x + 1) * m ^ d.length≤m * m ^ d.length:=Nat.mul_le_mul_right _ h1
  rw [Nat.succ_mul] at h3
  rw [Nat.mul_comm (m ^ d.length) m]
  omega
theorem val_next {m:Nat}:∀ {d:List Nat},(∀ s ∈ d,s < m)→(∀ d',next m d=some d'→val m d'=val m d + 1∧d'.length=d.length∧∀ s ∈ d',s < m)∧(next m d=none→val m d + 1=m ^ d.length)
 | [],_=>⟨fun d' h=>(by cases h),fun _=>by simp [val]⟩
 | x :: d,h=>by
  have h1:=h x (List.mem_cons_self ..)
  have hd:∀ s ∈ d,s < m:=fun s hs=>h s (List.mem_cons_of_mem _ hs)
  obtain ⟨i1,i2⟩:=val_next hd
  cases hn:next m d with
  | some d1 =>
   obtain ⟨g1,g2,g3⟩:=i1 d1 hn
   refine ⟨fun d' h'=>?_,fun h'=>?_⟩
   ·rw [next,hn] at h'
    injection h' with h'
    subst h'
    refine ⟨by rw [val,val,g1,g2];omega,by rw [List.length_cons,List.length_cons,g2],fun s hs=>?_⟩
    rcases List.mem_cons.1 hs with rfl | hs
    ·exact h1
    ·exact g3 s hs
   ·rw [next,hn] at h'
    cases h'
  | none =>
   have i3:=i2 hn
   by_cases hx:x + 1 < m
   ·refine ⟨fun d' h'=>?_,fun h'=>?_⟩
    ·rw [next,hn] at h'
     dsimp only at h'
     rw [if_pos hx] at h'
     injection h' with h'
     subst h'
     refine ⟨by rw [val,val,val_zero,List.length_replicate,Nat.succ_mul];omega,by simp,fun s hs=>?_⟩
     rcases List.mem_cons.1 hs with rfl | hs
     ·exact hx
     ·have:=List.eq_of_mem_replicate hs
      omega
    ·rw [next,hn] at h'
     dsimp only at h'
     rw [if_pos hx] at h'
     cases h'
   ·refine ⟨fun d' h'=>?_,fun _=>?_⟩
    ·rw [next,hn] at h'
     dsimp only at h'
     rw [if_neg hx] at h'
     cases h'
    ·have e:m=x + 1:=by omega
     rw [val,List.length_cons,Nat.pow_succ,Nat.mul_comm (m ^ d.length) m]
     have h3:m * m ^ d.length=x * m ^ d.length + m ^ d.length:=by
      conv=>lhs;rw [show m * m ^ d.length=(x + 1) * m ^ d.length by rw [←e]]
      rw [Nat.succ_mul]
     omega
theorem exts_zero {m:Nat} (hm:0 < m) (k:Nat):(exts m k)[0]? = some (List.replicate k 0):=by
 rw [←exts_head hm k,List.head?_eq_getElem?]
end A
end Go.Proofs.YtippdjmpkafifaaGreat
