import Derived.Test.YtippdjmpkafifaaGreatCP13
import Derived.Test.YtippdjmpkafifaaGreatCP11
import Derived.Test.YtippdjmpkafifaaGreatCP10
import Derived.Test.YtippdjmpkafifaaGreatCP5
import Derived.Lib.LazyBuf
import Derived.Test.YtippdjmpkafifaaGreatCP7
import Derived.Deep.RegionHeld3
import Derived.Deep.RegionWith
namespace Go.Proofs.YtippdjmpkafifaaGreat
open Go.RowKit
set_option maxRecDepth 100000 in
set_option maxHeartbeats 4000000 in
theorem fewTours_any (A:Option Addr) (n c:Nat) (ts:List TV) (w:World) (hT:Tours w A n ts) :
  Calls Tryz.prog 18 #[.slice A n c] w fun e w'=>(∃ z,e=.returned (.bool z)∧(z=true→n≤6∧∀ y ∈ ts,y.n≤10∧y.n'≤10))∧Below w.heap.size w w':=by
 go_enter Tryz.func18,Tryz.ntmps18
 go_wp2_with fail
 go_loopw [3] (fun v3 wr=>∃ k:Nat,v3=.int .i64 k∧k≤n∧k≤6∧(∀ (i:Nat) (y:TV),ts[i]? = some y→i < k→y.n≤10∧y.n'≤10)∧Below w.heap.size w wr) (fun v3 _=>n - (intOf v3).toNat)
 case atStart=>exact ⟨0,rfl,by omega,by omega,fun i y _ h=>absurd h (by omega),Below.refl _ _⟩
 case round =>
  obtain ⟨k,rfl,hk,hk6,hf,hW⟩:=hrel
  by_cases hlt:k < n∧k < 6
  ·obtain ⟨hlt,hl6⟩:=hlt
   obtain ⟨ad,y,rfl,hg,-,t0,t1,t2,t3⟩:=(hT.below hW).at_ hlt
   have k0:(0:Int)≤(k:Int):=by omega
   have k1:(k:Int) < (n:Int):=by omega
   have k2:decide ((k:Int) < (n:Int))=true:=by simp;omega
   have k3:decide ((k:Int) < 6)=true:=by simp;omega
   have ks:IntKind.i64.wrap ((k:Int) + 1)=((k + 1:Nat):Int):=by rw [IntWalk.i64_in _ (by omega)];omega
   have HG:=Lib.hid hg
   clear hg
   by_cases h1:10 < y.n
   ·have d1:decide ((10:Int) < (y.n:Int))=true:=by simp;omega
    have d2:decide (10 < y.n)=true:=by simp;omega
    clear h1
    go_wp2_with fail
    go_ret
    exact ⟨⟨false,rfl,fun h=>(by cases h)⟩,hW⟩
   ·have d1:decide ((10:Int) < (y.n:Int))=false:=by simp;omega
    have d2:decide (10 < y.n)=false:=by simp;omega
    by_cases h2:10 < y.n'
    ·have d3:decide ((10:Int) < (y.n':Int))=true:=by simp;omega
     have d4:decide (10 < y.n')=true:=by simp;omega
     clear h1 h2
     go_wp2_with fail
     go_ret
     exact ⟨⟨false,rfl,fun h=>(by cases h)⟩,hW⟩
    ·have d3:decide ((10:Int) < (y.n':Int))=false:=by simp;omega
     have d4:decide (10 < y.n')=false:=by simp;omega
     have H12:=Lib.hid (show y.n≤10∧y.n'≤10 by omega)
     clear h1 h2
     go_wp2_with fail
     go_roundw
     case rel =>
      refine ⟨k + 1,by go_num,by omega,by omega,fun i z hz hi=>?_,hW⟩
      by_cases e:i=k
      ·rw [e,HG.out] at hz
       injection hz with hz
       rw [←hz]
       exact H12.out
      ·exact hf i z hz (by omega)
     case measure=>simp [intOf];omega
  ·have HF:=Lib.hid (show n≤6→∀ y ∈ ts,y.n≤10∧y.n'≤10 from fun h y hy=>by
    obtain ⟨i,hi,e⟩:=List.mem_iff_getElem.1 hy
    have:=hT.1.1
    exact hf i y (by rw [List.getElem?_eq_getElem hi,e]) (by omega))
   by_cases hkn:k < n
   ·have k2:decide ((k:Int) < (n:Int))=true:=by simp;omega
    have k2':decide (k < n)=true:=by simp;omega
    have k3:decide ((k:Int) < 6)=false:=by simp;omega
    have hlt':¬ k < 6:=fun h=>hlt ⟨hkn,h⟩
    have HZ:=Lib.hid (show decide ((n:Int)≤6)=false by simp;omega)
    clear hlt hkn hlt'
    go_wp2_with fail
    go_ret
    exact ⟨⟨_,rfl,fun h=>absurd (h.symm.trans (by first | exact HZ.out | (have h9:=HZ.out;simp at h9 ⊢;omega))) (by decide)⟩,hW⟩
   ·have k2:decide ((k:Int) < (n:Int))=false:=by simp;omega
    have k2':decide (k < n)=false:=by simp;omega
    clear hlt hkn
    go_wp2_with fail
    go_ret
    exact ⟨⟨_,rfl,fun h=>(by have h9:n≤6:=(by simp at h;omega);exact ⟨h9,HF.out h9⟩)⟩,hW⟩
set_option maxRecDepth 100000 in
set_option maxHeartbeats 4000000 in
theorem fewBlocks_any (A:Option Addr) (n c:Nat) (ts:List BV) (w:World) (hT:Blks w A n ts) :
  Calls Tryz.prog 19 #[.slice A n c] w fun e w'=>(∃ z,e=.returned (.bool z)∧(z=true→n≤202∧∀ y ∈ ts,y.vn≤6∧y.ln≤60))∧Below w.heap.size w w':=by
 go_enter Tryz.func19,Tryz.ntmps19
 go_wp2_with fail
 go_loopw [3] (fun v3 wr=>∃ k:Nat,v3=.int .i64 k∧k≤n∧k≤210∧(∀ (i:Nat) (y:BV),ts[i]? = some y→i < k→y.vn≤6∧y.ln≤60)∧Below w.heap.size w wr) (fun v3 _=>n - (intOf v3).toNat)
 case atStart=>exact ⟨0,rfl,by omega,by omega,fun i y _ h=>absurd h (by omega),Below.refl _ _⟩
 case round =>
  obtain ⟨k,rfl,hk,hk6,hf,hW⟩:=hrel
  by_cases hlt:k < n∧k < 210
  ·obtain ⟨hlt,hl6⟩:=hlt
   obtain ⟨ad,y,rfl,hg,-,c0,c1,c2⟩:=(hT.below hW).at_ hlt
   have k0:(0:Int)≤(k:Int):=by omega
   have k1:(k:Int) < (n:Int):=by omega
   have k2:decide ((k:Int) < (n:Int))=true:=by simp;omega
   have k3:decide ((k:Int) < 210)=true:=by simp;omega
   have ks:IntKind.i64.wrap ((k:Int) + 1)=((k + 1:Nat):Int):=by rw [IntWalk.i64_in _ (by omega)];omega
   have HG:=Lib.hid hg
   clear hg
   by_cases h1:6 < y.vn
   ·have d1:decide ((6:Int) < (y.vn:Int))=true:=by simp;omega
    have d2:decide (6 < y.vn)=true:=by simp;omega
    clear h1
    go_wp2_with fail
    go_ret
    exact ⟨⟨false,rfl,fun h=>(by cases h)⟩,hW⟩
   ·have d1:decide ((6:Int) < (y.vn:Int))=false:=by simp;omega
    have d2:decide (6 < y.vn)=false:=by simp;omega
    by_cases h2:60 < y.ln
    ·have d3:decide ((60:Int) < (y.ln:Int))=true:=by simp;omega
     have d4:decide (60 < y.ln)=true:=by simp;omega
     clear h1 h2
     go_wp2_with fail
     go_ret
     exact ⟨⟨false,rfl,fun h=>(by cases h)⟩,hW⟩
    ·have d3:decide ((60:Int) < (y.ln:Int))=false:=by simp;omega
     have d4:decide (60 < y.ln)=false:=by simp;omega
     have H12:=Lib.hid (show y.vn≤6∧y.ln≤60 by omega)
     clear h1 h2
     go_wp2_with fail
     go_roundw
     case rel =>
      refine ⟨k + 1,by go_num,by omega,by omega,fun i z hz hi=>?_,hW⟩
      by_cases e:i=k
      ·rw [e,HG.out] at hz
       injection hz with hz
       rw [←hz]
       exact H12.out
      ·exact hf i z hz (by omega)
     case measure=>simp [intOf];omega
  ·have HF:=Lib.hid (show n≤202→∀ y ∈ ts,y.vn≤6∧y.ln≤60 from fun h y hy=>by
    obtain ⟨i,hi,e⟩:=List.mem_iff_getElem.1 hy
    have:=hT.1.1
    exact hf i y (by rw [List.getElem?_eq_getElem hi,e]) (by omega))
   by_cases hkn:k < n
   ·have hb:¬ k < 210:=fun h=>hlt ⟨hkn,h⟩
    have k2:decide ((k:Int) < (n:Int))=true:=by simp;omega
    have k2':decide (k < n)=true:=by simp;omega
    have k3:decide ((k:Int) < 210)=false:=by simp;omega
    have k3':decide (k < 210)=false:=by simp;omega
    have d12i:decide ((n:Int)≤12)=false:=by simp;omega
    have d12n:decide (n≤12)=false:=by simp;omega
    have d200i:decide (200 < (n:Int))=true:=by simp;omega
    have d200n:decide (200 < n)=true:=by simp;omega
    have d202i:decide ((n:Int)≤202)=false:=by simp;omega
    have d202n:decide (n≤202)=false:=by simp;omega
    have HF2:=Lib.hid (show True from trivial)
    clear hlt hkn hb
    go_wp2_with fail
    go_ret
    exact ⟨⟨false,rfl,fun h=>(by cases h)⟩,hW⟩
   by_cases hb:n≤12
   ·have k2:decide ((k:Int) < (n:Int))=false:=by simp;omega
    have k2':decide (k < n)=false:=by simp;omega
    have d12i:decide ((n:Int)≤12)=true:=by simp;omega
    have d12n:decide (n≤12)=true:=by simp;omega
    have HF2:=Lib.hid (show n≤202 from by omega)
    clear hlt hkn hb
    go_wp2_with fail
    go_ret
    exact ⟨⟨true,rfl,fun _=>⟨HF2.out,HF.out HF2.out⟩⟩,hW⟩
   by_cases hb:n≤200
   ·have k2:decide ((k:Int) < (n:Int))=false:=by simp;omega
    have k2':decide (k < n)=false:=by simp;omega
    have d12i:decide ((n:Int)≤12)=false:=by simp;omega
    have d12n:decide (n≤12)=false:=by simp;omega
    have d200i:decide (200 < (n:Int))=false:=by simp;omega
    have d200n:decide (200 < n)=false:=by simp;omega
    have HF2:=Lib.hid (show True from trivial)
    clear hlt hkn hb
    go_wp2_with fail
    go_ret
    exact ⟨⟨false,rfl,fun h=>(by cases h)⟩,hW⟩
   by_cases hb:n≤202
   ·have k2:decide ((k:Int) < (n:Int))=false:=by simp;omega
    have k2':decide (k < n)=false:=by simp;omega
    have d12i:decide ((n:Int)≤12)=false:=by simp;omega
    have d12n:decide (n≤12)=false:=by simp;omega
    have d200i:decide (200 < (n:Int))=true:=by simp;omega
    have d200n:decide (200 < n)=true:=by simp;omega
    have d202i:decide ((n:Int)≤202)=true:=by simp;omega
    have d202n:decide (n≤202)=true:=by simp;omega
    have HF2:=Lib.hid (show n≤202 from by omega)
    clear hlt hkn hb
    go_wp2_with fail
    go_ret
    exact ⟨⟨true,rfl,fun _=>⟨HF2.out,HF.out HF2.out⟩⟩,hW⟩
   ·have k2:decide ((k:Int) < (n:Int))=false:=by simp;omega
    have k2':decide (k < n)=false:=by simp;omega
    have d12i:decide ((n:Int)≤12)=false:=by simp;omega
    have d12n:decide (n≤12)=false:=by simp;omega
    have d200i:decide (200 < (n:Int))=true:=by simp;omega
    have d200n:decide (200 < n)=true:=by simp;omega
    have d202i:decide ((n:Int)≤202)=false:=by simp;omega
    have d202n:decide (n≤202)=false:=by simp;omega
    have HF2:=Lib.hid (show True from trivial)
    clear hlt hkn hb
    go_wp2_with fail
    go_ret
    exact ⟨⟨false,rfl,fun h=>(by cases h)⟩,hW⟩
namespace K
def zeroS:S:=⟨0,0,0,0,0,none,0,0,[]⟩
def fewM (n a b c:Nat):Bool:=(decide (a < n) && decide (n≤b)) || decide (c < n)
def few32 (x:Cs):Bool:=few27 x.nd x.n && (!(fewM x.sn 2 4 6) && (!(fewM x.m 4 6 8) && (x.ss.all (fun s=>T.few s x.r 8) && T.few zeroS x.r 8)))
end K
set_option maxRecDepth 100000 in
set_option maxHeartbeats 8000000 in
theorem few9_any (x:Cs) (w:World) (hSS:Shifts w x.SA x.sn x.ss) (hRR:Reqs w x.B x.m x.r) :
  Calls Tryz.prog 17 #[.agg #[.int .i64 x.nd,.slice x.A x.n x.c],.slice x.SA x.sn x.sc,.slice x.B x.m x.d] w fun e w'=>e=.returned (.bool (K.few32 x))∧Below w.heap.size w w':=by
 have hN:=Net.new w x.nd x.A x.n x.c
 have p0:=hN.c0
 have p1:=hN.c1
 have b0:Below w.heap.size w (w.alloc (.cells #[.int .i64 x.nd,.slice x.A x.n x.c] 24)):=(Below.refl _ _).alloc (Nat.le_refl _) _
 have C27:=rfew27_any x.nd x.A x.n x.c (w.alloc (.cells #[.int .i64 x.nd,.slice x.A x.n x.c] 24))
 obtain ⟨f27,hf27⟩:∃ f27,f27=K.few27 x.nd x.n:=⟨_,rfl⟩
 rw [←hf27] at C27
 have HF27:=Lib.hid hf27
 clear hf27
 go_enter Tryz.func17,Tryz.ntmps17
 go_wp2_with fail
 refine C27.mono ?_
 rintro e w1 ⟨rfl,b1⟩
 have hb1:=bel b0 b1
 clear C27 b0 b1 p0 p1 hN
 cases f27 with
 | false =>
  have HX:=Lib.hid (show K.few32 x=false by unfold K.few32;rw [←HF27.out];rfl)
  go_wp2_with fail
  go_ret
  exact ⟨by rw [HX.out];rfl,hb1⟩
 | true =>
  by_cases h1:x.sn≤2
  ·have s1i:decide (2 < ((x.sn:Nat):Int))=false:=by simp;omega
   have s1n:decide (2 < x.sn)=false:=by simp;omega
   have s3i:decide (6 < ((x.sn:Nat):Int))=false:=by simp;omega
   have s3n:decide (6 < x.sn)=false:=by simp;omega
   by_cases h2:x.m≤4
   ·have m1i:decide (4 < ((x.m:Nat):Int))=false:=by simp;omega
    have m1n:decide (4 < x.m)=false:=by simp;omega
    have m3i:decide (8 < ((x.m:Nat):Int))=false:=by simp;omega
    have m3n:decide (8 < x.m)=false:=by simp;omega
    have HH:=Lib.hid (show K.few32 x=(x.ss.all (fun s=>T.few s x.r 8) && T.few K.zeroS x.r 8) by
     have e1:K.fewM x.sn 2 4 6=false:=by unfold K.fewM;simp;omega
     have e2:K.fewM x.m 4 6 8=false:=by unfold K.fewM;simp;omega
     unfold K.few32;rw [←HF27.out,e1,e2];rfl)
    have hsn9:x.sn≤1000000000:=by omega
    clear h1 h2
    go_wp2_with fail
    go_loopw [7] (fun v7 wr=>∃ k:Nat,v7=.int .i64 k∧k≤x.sn∧Hid (K.few32 x=((x.ss.drop k).all (fun s=>T.few s x.r 8) && T.few K.zeroS x.r 8))∧Below w.heap.size w wr) (fun v7 _=>x.sn - (intOf v7).toNat)
    case atStart=>exact ⟨0,rfl,by omega,by show _=_;rw [List.drop_zero];exact HH.out,hb1⟩
    case round =>
     obtain ⟨k,rfl,hk,hr,hW⟩:=hrel
     by_cases hlt:k < x.sn
     ·obtain ⟨ad,s,hA,hg,-,c0,c1,c2,c3,c4,c5⟩:=(hSS.below hW).at_ hlt
      rw [hA]
      have HA:=Lib.hid hA
      have HD:=Lib.hid (drop_all (p:=fun s=>T.few s x.r 8) hg)
      have CF:=few_any s x.B x.m x.d x.r 8 wr (hRR.below hW) (by omega)
      obtain ⟨z,hz⟩:∃ z,z=T.few s x.r 8:=⟨_,rfl⟩
      rw [←hz] at CF
      have HZ:=Lib.hid hz
      have k0:(0:Int)≤(k:Int):=by omega
      have k1:(k:Int) < (x.sn:Int):=by omega
      clear hz hg hA
      go_wp2_with fail
      refine CF.mono ?_
      rintro e w2 ⟨rfl,b2⟩
      have hb2:=bel hW b2
      clear CF c0 c1 c2 c3 c4 c5
      cases z with
      | false =>
       go_wp2_with fail
       go_ret
       exact ⟨by rw [hr.out,HD.out,←HZ.out];rfl,hb2⟩
      | true =>
       go_wp2_with fail
       go_roundw
       case rel=>exact ⟨k + 1,by go_num,by omega,by show _=_;rw [hr.out,HD.out,←HZ.out,Bool.true_and],hb2⟩
       case measure=>simp [intOf];omega
     ·have HE:=Lib.hid (show K.few32 x=T.few K.zeroS x.r 8 by rw [hr.out,List.drop_eq_nil_of_le (by rw [←hSS.1.1];omega)];rfl)
      have CZ:=few_any K.zeroS x.B x.m x.d x.r 8 wr (hRR.below hW) (by omega)
      have k2:decide ((k:Int) < (x.sn:Int))=false:=by simp;omega
      have k2':decide (k < x.sn)=false:=by simp;omega
      clear hlt
      go_wp2_with fail
      refine CZ.mono ?_
      rintro e w2 ⟨rfl,b2⟩
      go_wp2_with fail
      go_ret
      exact ⟨by rw [HE.out];rfl,bel hW b2⟩
   by_cases h2:x.m≤6
   ·have m1i:decide (4 < ((x.m:Nat):Int))=true:=by simp;omega
    have m1n:decide (4 < x.m)=true:=by simp;omega
    have m2i:decide (((x.m:Nat):Int)≤6)=true:=by simp;omega
    have m2n:decide (x.m≤6)=true:=by simp;omega
    have HX:=Lib.hid (show K.few32 x=false by unfold K.few32 K.fewM;simp;omega)
    go_wp2_with fail
    go_ret
    exact ⟨by rw [HX.out];rfl,hb1⟩
   by_cases h2:x.m≤8
   ·have m1i:decide (4 < ((x.m:Nat):Int))=true:=by simp;omega
    have m1n:decide (4 < x.m)=true:=by simp;omega
    have m2i:decide (((x.m:Nat):Int)≤6)=false:=by simp;omega
    have m2n:decide (x.m≤6)=false:=by simp;omega
    have m3i:decide (8 < ((x.m:Nat):Int))=false:=by simp;omega
    have m3n:decide (8 < x.m)=false:=by simp;omega
    have HH:=Lib.hid (show K.few32 x=(x.ss.all (fun s=>T.few s x.r 8) && T.few K.zeroS x.r 8) by
     have e1:K.fewM x.sn 2 4 6=false:=by unfold K.fewM;simp;omega
     have e2:K.fewM x.m 4 6 8=false:=by unfold K.fewM;simp;omega
     unfold K.few32;rw [←HF27.out,e1,e2];rfl)
    have hsn9:x.sn≤1000000000:=by omega
    clear h1 h2
    go_wp2_with fail
    go_loopw [7] (fun v7 wr=>∃ k:Nat,v7=.int .i64 k∧k≤x.sn∧Hid (K.few32 x=((x.ss.drop k).all (fun s=>T.few s x.r 8) && T.few K.zeroS x.r 8))∧Below w.heap.size w wr) (fun v7 _=>x.sn - (intOf v7).toNat)
    case atStart=>exact ⟨0,rfl,by omega,by show _=_;rw [List.drop_zero];exact HH.out,hb1⟩
    case round =>
     obtain ⟨k,rfl,hk,hr,hW⟩:=hrel
     by_cases hlt:k < x.sn
     ·obtain ⟨ad,s,hA,hg,-,c0,c1,c2,c3,c4,c5⟩:=(hSS.below hW).at_ hlt
      rw [hA]
      have HA:=Lib.hid hA
      have HD:=Lib.hid (drop_all (p:=fun s=>T.few s x.r 8) hg)
      have CF:=few_any s x.B x.m x.d x.r 8 wr (hRR.below hW) (by omega)
      obtain ⟨z,hz⟩:∃ z,z=T.few s x.r 8:=⟨_,rfl⟩
      rw [←hz] at CF
      have HZ:=Lib.hid hz
      have k0:(0:Int)≤(k:Int):=by omega
      have k1:(k:Int) < (x.sn:Int):=by omega
      clear hz hg hA
      go_wp2_with fail
      refine CF.mono ?_
      rintro e w2 ⟨rfl,b2⟩
      have hb2:=bel hW b2
      clear CF c0 c1 c2 c3 c4 c5
      cases z with
      | false =>
       go_wp2_with fail
       go_ret
       exact ⟨by rw [hr.out,HD.out,←HZ.out];rfl,hb2⟩
      | true =>
       go_wp2_with fail
       go_roundw
       case rel=>exact ⟨k + 1,by go_num,by omega,by show _=_;rw [hr.out,HD.out,←HZ.out,Bool.true_and],hb2⟩
       case measure=>simp [intOf];omega
     ·have HE:=Lib.hid (show K.few32 x=T.few K.zeroS x.r 8 by rw [hr.out,List.drop_eq_nil_of_le (by rw [←hSS.1.1];omega)];rfl)
      have CZ:=few_any K.zeroS x.B x.m x.d x.r 8 wr (hRR.below hW) (by omega)
      have k2:decide ((k:Int) < (x.sn:Int))=false:=by simp;omega
      have k2':decide (k < x.sn)=false:=by simp;omega
      clear hlt
      go_wp2_with fail
      refine CZ.mono ?_
      rintro e w2 ⟨rfl,b2⟩
      go_wp2_with fail
      go_ret
      exact ⟨by rw [HE.out];rfl,bel hW b2⟩
   ·have m1i:decide (4 < ((x.m:Nat):Int))=true:=by simp;omega
    have m1n:decide (4 < x.m)=true:=by simp;omega
    have m2i:decide (((x.m:Nat):Int)≤6)=false:=by simp;omega
    have m2n:decide (x.m≤6)=false:=by simp;omega
    have m3i:decide (8 < ((x.m:Nat):Int))=true:=by simp;omega
    have m3n:decide (8 < x.m)=true:=by simp;omega
    have HX:=Lib.hid (show K.few32 x=false by unfold K.few32 K.fewM;simp;omega)
    go_wp2_with fail
    go_ret
    exact ⟨by rw [HX.out];rfl,hb1⟩
  by_cases h1:x.sn≤4
  ·have s1i:decide (2 < ((x.sn:Nat):Int))=true:=by simp;omega
   have s1n:decide (2 < x.sn)=true:=by simp;omega
   have s2i:decide (((x.sn:Nat):Int)≤4)=true:=by simp;omega
   have s2n:decide (x.sn≤4)=true:=by simp;omega
   have HX:=Lib.hid (show K.few32 x=false by unfold K.few32 K.fewM;simp;omega)
   go_wp2_with fail
   go_ret
   exact ⟨by rw [HX.out];rfl,hb1⟩
  by_cases h1:x.sn≤6
  ·have s1i:decide (2 < ((x.sn:Nat):Int))=true:=by simp;omega
   have s1n:decide (2 < x.sn)=true:=by simp;omega
   have s2i:decide (((x.sn:Nat):Int)≤4)=false:=by simp;omega
   have s2n:decide (x.sn≤4)=false:=by simp;omega
   have s3i:decide (6 < ((x.sn:Nat):Int))=false:=by simp;omega
   have s3n:decide (6 < x.sn)=false:=by simp;omega
   by_cases h2:x.m≤4
   ·have m1i:decide (4 < ((x.m:Nat):Int))=false:=by simp;omega
    have m1n:decide (4 < x.m)=false:=by simp;omega
    have m3i:decide (8 < ((x.m:Nat):Int))=false:=by simp;omega
    have m3n:decide (8 < x.m)=false:=by simp;omega
    have HH:=Lib.hid (show K.few32 x=(x.ss.all (fun s=>T.few s x.r 8) && T.few K.zeroS x.r 8) by
     have e1:K.fewM x.sn 2 4 6=false:=by unfold K.fewM;simp;omega
     have e2:K.fewM x.m 4 6 8=false:=by unfold K.fewM;simp;omega
     unfold K.few32;rw [←HF27.out,e1,e2];rfl)
    have hsn9:x.sn≤1000000000:=by omega
    clear h1 h2
    go_wp2_with fail
    go_loopw [7] (fun v7 wr=>∃ k:Nat,v7=.int .i64 k∧k≤x.sn∧Hid (K.few32 x=((x.ss.drop k).all (fun s=>T.few s x.r 8) && T.few K.zeroS x.r 8))∧Below w.heap.size w wr) (fun v7 _=>x.sn - (intOf v7).toNat)
    case atStart=>exact ⟨0,rfl,by omega,by show _=_;rw [List.drop_zero];exact HH.out,hb1⟩
    case round =>
     obtain ⟨k,rfl,hk,hr,hW⟩:=hrel
     by_cases hlt:k < x.sn
     ·obtain ⟨ad,s,hA,hg,-,c0,c1,c2,c3,c4,c5⟩:=(hSS.below hW).at_ hlt
      rw [hA]
      have HA:=Lib.hid hA
      have HD:=Lib.hid (drop_all (p:=fun s=>T.few s x.r 8) hg)
      have CF:=few_any s x.B x.m x.d x.r 8 wr (hRR.below hW) (by omega)
      obtain ⟨z,hz⟩:∃ z,z=T.few s x.r 8:=⟨_,rfl⟩
      rw [←hz] at CF
      have HZ:=Lib.hid hz
      have k0:(0:Int)≤(k:Int):=by omega
      have k1:(k:Int) < (x.sn:Int):=by omega
      clear hz hg hA
      go_wp2_with fail
      refine CF.mono ?_
      rintro e w2 ⟨rfl,b2⟩
      have hb2:=bel hW b2
      clear CF c0 c1 c2 c3 c4 c5
      cases z with
      | false =>
       go_wp2_with fail
       go_ret
       exact ⟨by rw [hr.out,HD.out,←HZ.out];rfl,hb2⟩
      | true =>
       go_wp2_with fail
       go_roundw
       case rel=>exact ⟨k + 1,by go_num,by omega,by show _=_;rw [hr.out,HD.out,←HZ.out,Bool.true_and],hb2⟩
       case measure=>simp [intOf];omega
     ·have HE:=Lib.hid (show K.few32 x=T.few K.zeroS x.r 8 by rw [hr.out,List.drop_eq_nil_of_le (by rw [←hSS.1.1];omega)];rfl)
      have CZ:=few_any K.zeroS x.B x.m x.d x.r 8 wr (hRR.below hW) (by omega)
      have k2:decide ((k:Int) < (x.sn:Int))=false:=by simp;omega
      have k2':decide (k < x.sn)=false:=by simp;omega
      clear hlt
      go_wp2_with fail
      refine CZ.mono ?_
      rintro e w2 ⟨rfl,b2⟩
      go_wp2_with fail
      go_ret
      exact ⟨by rw [HE.out];rfl,bel hW b2⟩
   by_cases h2:x.m≤6
   ·have m1i:decide (4 < ((x.m:Nat):Int))=true:=by simp;omega
    have m1n:decide (4 < x.m)=true:=by simp;omega
    have m2i:decide (((x.m:Nat):Int)≤6)=true:=by simp;omega
    have m2n:decide (x.m≤6)=true:=by simp;omega
    have HX:=Lib.hid (show K.few32 x=false by unfold K.few32 K.fewM;simp;omega)
    go_wp2_with fail
    go_ret
    exact ⟨by rw [HX.out];rfl,hb1⟩
   by_cases h2:x.m≤8
   ·have m1i:decide (4 < ((x.m:Nat):Int))=true:=by simp;omega
    have m1n:decide (4 < x.m)=true:=by simp;omega
    have m2i:decide (((x.m:Nat):Int)≤6)=false:=by simp;omega
    have m2n:decide (x.m≤6)=false:=by simp;omega
    have m3i:decide (8 < ((x.m:Nat):Int))=false:=by simp;omega
    have m3n:decide (8 < x.m)=false:=by simp;omega
    have HH:=Lib.hid (show K.few32 x=(x.ss.all (fun s=>T.few s x.r 8) && T.few K.zeroS x.r 8) by
     have e1:K.fewM x.sn 2 4 6=false:=by unfold K.fewM;simp;omega
     have e2:K.fewM x.m 4 6 8=false:=by unfold K.fewM;simp;omega
     unfold K.few32;rw [←HF27.out,e1,e2];rfl)
    have hsn9:x.sn≤1000000000:=by omega
    clear h1 h2
    go_wp2_with fail
    go_loopw [7] (fun v7 wr=>∃ k:Nat,v7=.int .i64 k∧k≤x.sn∧Hid (K.few32 x=((x.ss.drop k).all (fun s=>T.few s x.r 8) && T.few K.zeroS x.r 8))∧Below w.heap.size w wr) (fun v7 _=>x.sn - (intOf v7).toNat)
    case atStart=>exact ⟨0,rfl,by omega,by show _=_;rw [List.drop_zero];exact HH.out,hb1⟩
    case round =>
     obtain ⟨k,rfl,hk,hr,hW⟩:=hrel
     by_cases hlt:k < x.sn
     ·obtain ⟨ad,s,hA,hg,-,c0,c1,c2,c3,c4,c5⟩:=(hSS.below hW).at_ hlt
      rw [hA]
      have HA:=Lib.hid hA
      have HD:=Lib.hid (drop_all (p:=fun s=>T.few s x.r 8) hg)
      have CF:=few_any s x.B x.m x.d x.r 8 wr (hRR.below hW) (by omega)
      obtain ⟨z,hz⟩:∃ z,z=T.few s x.r 8:=⟨_,rfl⟩
      rw [←hz] at CF
      have HZ:=Lib.hid hz
      have k0:(0:Int)≤(k:Int):=by omega
      have k1:(k:Int) < (x.sn:Int):=by omega
      clear hz hg hA
      go_wp2_with fail
      refine CF.mono ?_
      rintro e w2 ⟨rfl,b2⟩
      have hb2:=bel hW b2
      clear CF c0 c1 c2 c3 c4 c5
      cases z with
      | false =>
       go_wp2_with fail
       go_ret
       exact ⟨by rw [hr.out,HD.out,←HZ.out];rfl,hb2⟩
      | true =>
       go_wp2_with fail
       go_roundw
       case rel=>exact ⟨k + 1,by go_num,by omega,by show _=_;rw [hr.out,HD.out,←HZ.out,Bool.true_and],hb2⟩
       case measure=>simp [intOf];omega
     ·have HE:=Lib.hid (show K.few32 x=T.few K.zeroS x.r 8 by rw [hr.out,List.drop_eq_nil_of_le (by rw [←hSS.1.1];omega)];rfl)
      have CZ:=few_any K.zeroS x.B x.m x.d x.r 8 wr (hRR.below hW) (by omega)
      have k2:decide ((k:Int) < (x.sn:Int))=false:=by simp;omega
      have k2':decide (k < x.sn)=false:=by simp;omega
      clear hlt
      go_wp2_with fail
      refine CZ.mono ?_
      rintro e w2 ⟨rfl,b2⟩
      go_wp2_with fail
      go_ret
      exact ⟨by rw [HE.out];rfl,bel hW b2⟩
   ·have m1i:decide (4 < ((x.m:Nat):Int))=true:=by simp;omega
    have m1n:decide (4 < x.m)=true:=by simp;omega
    have m2i:decide (((x.m:Nat):Int)≤6)=false:=by simp;omega
    have m2n:decide (x.m≤6)=false:=by simp;omega
    have m3i:decide (8 < ((x.m:Nat):Int))=true:=by simp;omega
    have m3n:decide (8 < x.m)=true:=by simp;omega
    have HX:=Lib.hid (show K.few32 x=false by unfold K.few32 K.fewM;simp;omega)
    go_wp2_with fail
    go_ret
    exact ⟨by rw [HX.out];rfl,hb1⟩
  ·have s1i:decide (2 < ((x.sn:Nat):Int))=true:=by simp;omega
   have s1n:decide (2 < x.sn)=true:=by simp;omega
   have s2i:decide (((x.sn:Nat):Int)≤4)=false:=by simp;omega
   have s2n:decide (x.sn≤4)=false:=by simp;omega
   have s3i:decide (6 < ((x.sn:Nat):Int))=true:=by simp;omega
   have s3n:decide (6 < x.sn)=true:=by simp;omega
   have HX:=Lib.hid (show K.few32 x=false by unfold K.few32 K.fewM;simp;omega)
   go_wp2_with fail
   go_ret
   exact ⟨by rw [HX.out];rfl,hb1⟩
set_option maxHeartbeats 2000000 in
theorem sameInts28_any (A B:Option Addr) (n m c d:Nat) (la lb:List Int) (w:World) (hla:Ints w A n la) (hlb:Ints w B m lb) (hn:n≤1000000000) (hm:m≤1000000000) :
  Calls Tryz.prog 50 #[.slice A n c,.slice B m d] w fun e w'=>e=.returned (.bool (decide (la=lb)))∧Below w.heap.size w w':=by
 by_cases hnm:n=m
 ·obtain rfl:=hnm
  go_enter Tryz.func50,Tryz.ntmps50
  go_wp2_with fail
  go_loopw [5] (fun vi wr=>∃ k:Nat,vi=.int .i64 k∧k≤n∧Hid (la.take k=lb.take k)∧Below w.heap.size w wr) (fun vi _=>n - (intOf vi).toNat)
  case atStart=>exact ⟨0,rfl,by omega,rfl,Below.refl _ _⟩
  case round =>
   obtain ⟨k,rfl,hk,hr,hb⟩:=hrel
   by_cases hlt:k < n
   ·obtain ⟨ad,o,rfl,hg,c0⟩:=(hla.below hb).at_ hlt
    obtain ⟨ad2,o2,rfl,hg2,c02⟩:=(hlb.below hb).at_ hlt
    have HN:=Lib.hid (take_eq_nexti hg hg2 hr.out)
    clear hg hg2
    by_cases ho:o=o2
    ·have HX:=Lib.hid (HN.out.2 ho)
     subst ho
     go_wp2_with fail
     go_quiet (fail)
     go_wp2_with fail
     go_roundw
     case rel=>exact ⟨k + 1,by go_num,by omega,HX.out,below_drewN hb _⟩
     case measure=>simp [intOf];omega
    ·have HX:=Lib.hid (fun h=>ho (HN.out.1 h))
     have q2:(o == o2)=false:=by simpa using ho
     go_wp2_with fail
     go_quiet (fail)
     go_wp2_with fail
     go_ret
     exact ⟨ret_b (Eq.symm (decide_eq_false (fun h=>HX.out (by rw [h])))),below_drewN hb _⟩
   ·have HX:=Lib.hid (show la=lb by
     have h:=hr.out
     rw [List.take_of_length_le (by rw [←hla.1];omega),List.take_of_length_le (by rw [←hlb.1];omega)] at h
     exact h)
    go_wp2_with fail
    go_ret
    exact ⟨ret_b (Eq.symm (decide_eq_true HX.out)),hb⟩
 ·have HX:=Lib.hid (show ¬ la=lb from fun h=>hnm (by rw [hla.1,hlb.1,h]))
  have q1:(((n:Nat):Int) != ((m:Nat):Int))=true:=by simp;omega
  go_enter Tryz.func50,Tryz.ntmps50
  go_wp2_with fail
  go_ret
  exact ⟨ret_b (Eq.symm (decide_eq_false HX.out)),Below.refl _ _⟩
theorem take_eq_nextT {la lb:List TV} {k:Nat} {x y:TV} (hx:la[k]? = some x) (hy:lb[k]? = some y) (h:(la.take k).map TV.pr=(lb.take k).map TV.pr):(la.take (k + 1)).map TV.pr=(lb.take (k + 1)).map TV.pr ↔ x.pr=y.pr:=by
 obtain ⟨h1,e1⟩:=List.getElem?_eq_some_iff.1 hx
 obtain ⟨h2,e2⟩:=List.getElem?_eq_some_iff.1 hy
 rw [List.take_succ_eq_append_getElem h1,List.take_succ_eq_append_getElem h2,e1,e2,List.map_append,List.map_append,h]
 simp
theorem TV.pr_iff {x y:TV}:x.pr=y.pr ↔ x.sh=y.sh∧x.t.end_=y.t.end_∧x.t.stops=y.t.stops∧x.t.times=y.t.times:=by
 constructor
 ·intro h
  have h1:x.sh=y.sh:=congrArg Prod.fst h
  have h2:x.t=y.t:=congrArg Prod.snd h
  exact ⟨h1,by rw [h2],by rw [h2],by rw [h2]⟩
 ·rintro ⟨h1,h2,h3,h4⟩
  obtain ⟨sh,A,n,c,A',n',c',⟨st,ti,en⟩⟩:=x
  obtain ⟨sh',B,m,d,B',m',d',⟨st',ti',en'⟩⟩:=y
  simp at h1 h2 h3 h4
  subst h1 h2 h3 h4
  rfl
def Says (P:Prop) (e:Ending):Prop:=∃ z,e=.returned (.bool z)∧(z=true ↔ P)
theorem says_no {P:Prop} (h:¬ P):Says P (.returned (.bool false)):=⟨false,rfl,fun h=>(by cases h),fun h2=>absurd h2 h⟩
theorem says_yes {P:Prop} (h:P):Says P (.returned (.bool true)):=⟨true,rfl,fun _=>h,fun _=>rfl⟩
set_option maxRecDepth 100000 in
set_option maxHeartbeats 16000000 in
theorem sameTours_any (A B:Option Addr) (n m c d:Nat) (la lb:List TV) (w:World) (hla:Tours w A n la) (hlb:Tours w B m lb) (hn:n≤1000000000) (hm:m≤1000000000) (hsa:∀ y ∈ la,y.n≤1000000000∧y.n'≤1000000000) (hsb:∀ y ∈ lb,y.n≤1000000000∧y.n'≤1000000000) :
  Calls Tryz.prog 24 #[.slice A n c,.slice B m d] w fun e w'=>Says (la.map TV.pr=lb.map TV.pr) e∧Below w.heap.size w w':=by
 by_cases hnm:n=m
 ·obtain rfl:=hnm
  go_enter Tryz.func24,Tryz.ntmps24
  go_wp2_with fail
  go_loopw [5] (fun vi wr=>∃ k:Nat,vi=.int .i64 k∧k≤n∧Hid ((la.take k).map TV.pr=(lb.take k).map TV.pr)∧Below w.heap.size w wr) (fun vi _=>n - (intOf vi).toNat)
  case atStart=>exact ⟨0,rfl,by omega,rfl,Below.refl _ _⟩
  case round =>
   obtain ⟨k,rfl,hk,hr,hb⟩:=hrel
   by_cases hlt:k < n
   ·obtain ⟨ad,x,rfl,hg,⟨hx1,hx2⟩,a0,a1,a2,a3⟩:=(hla.below hb).at_ hlt
    obtain ⟨ad2,y,rfl,hg2,⟨hy1,hy2⟩,c0,c1,c2,c3⟩:=(hlb.below hb).at_ hlt
    have HN:=Lib.hid (take_eq_nextT hg hg2 hr.out)
    obtain ⟨nx1,nx2⟩:=hsa x (List.mem_of_getElem? hg)
    obtain ⟨ny1,ny2⟩:=hsb y (List.mem_of_getElem? hg2)
    have C1:∀ i:Beh wr,Calls Tryz.prog 50 #[.slice x.A x.n x.c,.slice y.A y.n y.c] i.val fun e w'=>e=.returned (.bool (decide (x.t.stops=y.t.stops)))∧Below i.val.heap.size i.val w':=fun i=>sameInts28_any x.A y.A x.n y.n x.c y.c x.t.stops y.t.stops i.val (hx1.below i.property) (hy1.below i.property) nx1 ny1
    have C2:∀ i:Beh wr,Calls Tryz.prog 50 #[.slice x.A' x.n' x.c',.slice y.A' y.n' y.c'] i.val fun e w'=>e=.returned (.bool (decide (x.t.times=y.t.times)))∧Below i.val.heap.size i.val w':=fun i=>sameInts28_any x.A' y.A' x.n' y.n' x.c' y.c' x.t.times y.t.times i.val (hx2.below i.property) (hy2.below i.property) nx2 ny2
    have p0:=Beh.cell a0
    have p1:=Beh.cell a1
    have p2:=Beh.cell a2
    have p3:=Beh.cell a3
    have q0:=Beh.cell c0
    have q1:=Beh.cell c1
    have q2:=Beh.cell c2
    have q3:=Beh.cell c3
    obtain ⟨z1,hz1⟩:∃ z1,z1=(x.sh != y.sh):=⟨_,rfl⟩
    obtain ⟨z2,hz2⟩:∃ z2,z2=(x.t.end_ != y.t.end_):=⟨_,rfl⟩
    obtain ⟨z3,hz3⟩:∃ z3,z3=decide (x.t.stops=y.t.stops):=⟨_,rfl⟩
    obtain ⟨z4,hz4⟩:∃ z4,z4=decide (x.t.times=y.t.times):=⟨_,rfl⟩
    have HPR:=Lib.hid (show x.pr=y.pr ↔ (z1=false∧z2=false∧z3=true∧z4=true) by rw [TV.pr_iff,hz1,hz2,hz3,hz4];simp)
    rw [←hz3] at C1
    rw [←hz4] at C2
    have e1:=hz1.symm
    have e2:=hz2.symm
    clear hz1 hz2 hz3 hz4 a0 a1 a2 a3 c0 c1 c2 c3 hg hg2 hx1 hx2 hy1 hy2
    have k0:(0:Int)≤(k:Int):=by omega
    have k1:(k:Int) < (n:Int):=by omega
    have HB:=Lib.hid hb
    go_upto_region 6 with fail
    have h5:z1=true∨(z1=false∧z2=true)∨(z1=false∧z2=false∧z3=false)∨(z1=false∧z2=false∧z3=true∧z4=false)∨(z1=false∧z2=false∧z3=true∧z4=true):=by
     cases z1 <;> cases z2 <;> cases z3 <;> cases z4 <;> simp
    rcases h5 with rfl | ⟨rfl,rfl⟩ | ⟨rfl,rfl,rfl⟩ | ⟨rfl,rfl,rfl,rfl⟩ | ⟨rfl,rfl,rfl,rfl⟩
    all_goals
     refine reg_beh (by kernel_rfl) (by kernel_rfl) ?_
     repeat (go_big_quiet_step ((first | (go_at_call_of 50 (TV.A x);exact Beh.calls (C1 _)) | (go_at_call_of 50 (TV.A' x);exact Beh.calls (C2 _)))))
     refine wpQuiet_nil ?_
     rintro w4 ⟨⟨w4,b4⟩,rfl⟩
     have hb4:=bel HB.out b4
     clear C1 C2 p0 p1 p2 p3 q0 q1 q2 q3
     go_wp2_with fail
     first
      | (go_ret
         exact ⟨says_no (fun h=>absurd (HN.out.1 (by rw [List.map_take,List.map_take,h])) (by rw [HPR.out];simp)),hb4⟩)
      | (go_roundw
         case rel=>exact ⟨k + 1,by go_num,by omega,HN.out.2 (HPR.out.2 ⟨rfl,rfl,rfl,rfl⟩),hb4⟩
         case measure=>(simp [intOf];omega))
   ·have HX:=Lib.hid (show la.map TV.pr=lb.map TV.pr by
     have h:=hr.out
     rw [List.take_of_length_le (by rw [←hla.1.1];omega),List.take_of_length_le (by rw [←hlb.1.1];omega)] at h
     exact h)
    have k2:decide ((k:Int) < (n:Int))=false:=by simp;omega
    have k2':decide (k < n)=false:=by simp;omega
    clear hlt
    go_wp2_with fail
    go_ret
    exact ⟨says_yes HX.out,hb⟩
 ·have HX:=Lib.hid (show ¬ la.map TV.pr=lb.map TV.pr from fun h=>hnm (by rw [hla.1.1,hlb.1.1,←List.length_map (f:=TV.pr),h,List.length_map]))
  have q1:(((n:Nat):Int) != ((m:Nat):Int))=true:=by simp;omega
  go_enter Tryz.func24,Tryz.ntmps24
  go_wp2_with fail
  go_ret
  exact ⟨says_no HX.out,Below.refl _ _⟩
namespace K
theorem fewM_no {n a b c:Nat} (h:fewM n a b c=false):n≤c∧(n≤b→n≤a):=by
 unfold fewM at h
 simp at h
 omega
theorem few32_parts {x:Cs} (h:few32 x=true) (hm:x.m=x.r.length):x.n≤40∧x.sn≤6∧x.m≤8∧(∀ s ∈ x.ss,s.n≤6)∧(∀ q ∈ x.r,q.n≤10)∧(x.sn≤4→x.sn≤2)∧(x.m≤6→x.m≤4):=by
 simp only [few32,few27,Bool.and_eq_true,Bool.not_eq_true',decide_eq_true_eq] at h
 obtain ⟨⟨-,h1⟩,h2,h3,h4,h5⟩:=h
 obtain ⟨g1,g2⟩:=fewM_no h2
 obtain ⟨g3,g4⟩:=fewM_no h3
 refine ⟨h1,g1,g3,fun s hs=>?_,fun q hq=>?_,g2,g4⟩
 ·have:=List.all_eq_true.1 h4 s hs
  simp only [T.few,Bool.and_eq_true,decide_eq_true_eq] at this
  exact this.2.1
 ·simp only [T.few,Bool.and_eq_true,Bool.not_eq_true'] at h5
  have:=List.any_eq_false.1 h5.1 q (by rw [List.take_of_length_le (by omega)];exact hq)
  simpa using this
theorem few32_at {w:World} {x:Cs} (h:few32 x=true) (hN:Roads w x.A x.n x.l) (hS:Shifts w x.SA x.sn x.ss) (hQ:Reqs w x.B x.m x.r):CsAt w x:=by
 obtain ⟨h1,h2,h3,h4,h5,-⟩:=few32_parts h hQ.1
 exact ⟨hN,hS,hQ,by omega,fun s hs=>by have:=h4 s hs;omega,by omega,by omega,fun q hq=>by have:=h5 q hq;omega⟩
section
variable {nd : Int} {l : List Ro} {ss : List S} {r : List Q} {ts : List (Int × Tr)}
theorem checks_few (h:checks nd l ss r ts=0):ts.length≤4∧∀ t ∈ ts,t.2.stops.length≤6∧t.2.times.length≤6:=by
 unfold checks at h
 split at h
 case isFalse h1=>exact absurd h h1
 rename_i h1
 obtain ⟨-,hs4,-,-,hr6⟩:=pcheck_ok h1
 obtain ⟨g1,g2,-,-⟩:=checkGo_parts ts _ _ h
 refine ⟨?_,fun t ht=>?_⟩
 ·have hn:(ts.map fun t=>t.1).Nodup:=by
   unfold List.Nodup
   rw [List.pairwise_map]
   exact g2.imp fun h=>Int.ne_of_lt h.1
  have:=len_sub (b:=(List.range ss.length).map fun (i:Nat)=>(i:Int)) hn fun y hy=>by
   obtain ⟨t,ht,rfl⟩:=List.mem_map.1 hy
   obtain ⟨-,hg⟩:=g1 t ht
   obtain ⟨x,hx,-⟩:=hg.sh
   have:=(List.getElem?_eq_some_iff.1 hx).1
   have:=hg.pos
   exact List.mem_map.2 ⟨t.1.toNat,by rw [List.mem_range];omega,by omega⟩
  rw [List.length_map,List.length_map,List.length_range] at this
  omega
 ·obtain ⟨-,hg⟩:=g1 t ht
  obtain ⟨x,-,hc⟩:=hg.sh
  obtain ⟨c1,c2,c3⟩:=check_run hc
  have:=len_sub (b:=(List.range r.length).map fun (i:Nat)=>(i:Int)) c3 fun y hy=>List.mem_map.2 ⟨y.toNat,by have:=c2 y hy;rw [List.mem_range];omega,by have:=c2 y hy;omega⟩
  rw [List.length_map,List.length_range] at this
  refine ⟨by omega,?_⟩
  unfold check at hc
  simp only [Bool.and_eq_true,decide_eq_true_eq] at hc
  obtain ⟨-,-,-,e⟩:=run_ok c1
  rw [←hc.2.1,e]
  have:=K.legs_len nd l x r t.2.stops [] x.depot x.start
  show (all nd l x r t.2.stops).times.length≤6
  unfold all
  omega
end
end K
theorem fewT_of {w:World} {A:Option Addr} {n:Nat} {ts:List TV} (hT:Tours w A n ts) (h:ts.length≤4∧∀ t ∈ ts.map TV.pr,t.2.stops.length≤6∧t.2.times.length≤6):FewT n ts:=by
 refine ⟨by have:=hT.1.1;omega,fun y hy=>?_⟩
 have h1:=h.2 y.pr (List.mem_map_of_mem hy)
 have h2:=(hT.2 y hy).1.1
 have h3:=(hT.2 y hy).2.1
 have e1:y.pr.2.stops=y.t.stops:=rfl
 have e2:y.pr.2.times=y.t.times:=rfl
 rw [e1,e2] at h1
 omega
def K.exL32:List Ro:=[⟨0,1,10,-1⟩,⟨1,0,10,-1⟩]
def K.exS32 (A:Option Addr) (c:Nat):S:=⟨1,0,0,60,0,A,1,c,[5]⟩
def K.exQ32 (k:Int):Q:=⟨1,0,k,5,1,1,none,0,0,[]⟩
def IsEx32 (l:List Int) (x:Cs):Prop:=∃ A c A2 c2 SA sc B d,x=⟨2,A,2,c,K.exL32,SA,2,sc,[K.exS32 A2 c2,K.exS32 A2 c2],B,l.length,d,l.map K.exQ32⟩
theorem app_req {ops:Array Oper} {rest:List Oper} {o:Oper} {a:Act} {Q':Exit→Act→World→Prop} {w:World} (hgd:o.guard=none) (s x:Operand)
  (ho:o.op=.call { callee:=.builtin .append,args:=#[s,x],argTypes:=#[26,26] })
  (base:Nat) (v:Value) (n:Nat) (l:List Q) (hs:a.eval s=v) (hown:w.ownsRow base 47 7 v n (l.flatMap Q.cells)) (g:Nat) (y:Q) (hx:a.eval x=.slice (some ⟨g,0,none⟩) 1 1)
  (hg:w.heap[g]? = some (.cells y.cells.toArray 47 (0,0))) (hn:n≤1000000) (hbase:base≤w.heap.size)
  (h:∀ v' w',w'.ownsRow base 47 7 v' (n + 1) ((l ++ [y]).flatMap Q.cells)→w.grownBy w' v.ownBlock→(v'.ownBlock=v.ownBlock∨v'.ownBlock=some w.heap.size)→wpList Tryz.prog ops Q' rest (a.put o.dst v') w') :
  wpList Tryz.prog ops Q' (o :: rest) a w:=by
 obtain ⟨i0,hi,hz0,hz1,hz2⟩:=info_parts Tryz.info47
 refine wpList_append_own_at w hgd s x 26 ho base 47 i0 (.agg #[.int .i64 0,.int .i64 0,.int .i64 0,.int .i64 0,.int .i64 0,.int .i64 0,.slice none 0 0]) 7 72 Tryz.underlying26 hi hz0 hz1 hz2 rfl (by decide) v n (l.flatMap Q.cells) hs hown ⟨g,0,none⟩ 1 1 y.cells hx rfl ?_ ?_ ?_ ?_ hbase ?_
 ·intro j u hu
  rw [add_zero_block]
  exact blk_cell hg j u (by simpa using hu)
 ·intro u hu
  simp [Q.cells] at hu
  rcases hu with rfl | rfl | rfl | rfl | rfl | rfl | rfl <;> rfl
 ·simp only [maxLen];omega
 ·omega
 ·intro v' w' h2 h3 _ h5
  exact h v' w' (by rw [List.flatMap_append];simpa using h2) h3 h5
theorem ownsRow_of {w w':World} {base:Nat} {e:TypeId} {size n:Nat} {v:Value} {xs:List Value} (h:w.ownsRow base e size v n xs) (hk:∀ g o,w.heap[g]? = some o→base≤g→w'.heap[g]? = some o):w'.ownsRow base e size v n xs:=by
 obtain ⟨hl,h1 | ⟨g,cap,cur,h1,h2,h3,h4⟩⟩:=h
 ·exact ⟨hl,.inl h1⟩
 ·exact ⟨hl,.inr ⟨g,cap,cur,h1,h2,hk _ _ h3 h2,h4⟩⟩
theorem reqCells_flat:∀ l:List Q,reqCells l=l.flatMap Q.cells
 | []=>rfl
 | q :: l=>by rw [List.flatMap_cons,←reqCells_flat l];rfl
set_option maxRecDepth 100000 in
set_option maxHeartbeats 16000000 in
theorem example32_any (A0:Option Addr) (n0 c0:Nat) (l0:List Int) (w:World) (hI:Ints w A0 n0 l0) (hn:n0≤1000) :
  Calls Tryz.prog 62 #[.slice A0 n0 c0] w fun e w'=>(∃ x,IsEx32 l0 x∧CsAt w' x∧e=.returned (.tuple #[.agg #[.int .i64 x.nd,.slice x.A x.n x.c],.slice x.SA x.sn x.sc,.slice x.B x.m x.d]))∧Below w.heap.size w w':=by
 go_enter Tryz.func62,Tryz.ntmps62
 go_wp2_with fail
 obtain ⟨l4,hl4⟩:∃ l4:List Obj,l4=[.cells #[.int .i64 0,.slice none 0 0] 24,.cells #[.int .i64 0,.int .i64 1,.int .i64 10,.int .i64 (-1),.int .i64 1,.int .i64 0,.int .i64 10,.int .i64 (-1)] 134,
  .cells #[.int .i64 2,.slice (some ⟨w.heap.size + 1,0,none⟩) 2 2] 24,.cells #[.int .i64 5] 3,.cells #[.int .i64 1,.int .i64 0,.int .i64 0,.int .i64 60,.int .i64 0,.slice (some ⟨w.heap.size + 1 + 1 + 1,0,none⟩) 1 1] 63]:=⟨_,rfl⟩
 obtain ⟨w4,hw4⟩:∃ w4:World,w4=Als w l4:=⟨_,rfl⟩
 have hb:=Als.below l4 w
 have g:=Als.get l4 w
 have hsz:=Als.size l4 w
 rw [←hw4] at hb g hsz
 have e0:=g 0 _ (by rw [hl4];rfl)
 have e1:=g 1 _ (by rw [hl4];rfl)
 have e2:=g 2 _ (by rw [hl4];rfl)
 have e3:=g 3 _ (by rw [hl4];rfl)
 have e4:=g 4 _ (by rw [hl4];rfl)
 have hL:l4.length=5:=by rw [hl4];rfl
 rw [hL] at hsz
 rw [hl4] at hw4
 simp only [Als] at hw4
 rw [←hw4]
 clear hw4 g hL hl4
 have hown0:w4.ownsRow w4.heap.size 47 7 (.slice none 0 0) 0 (([]:List Q).flatMap Q.cells):=World.ownsRow_nil _ _ _ _
 have HSZ:=Lib.hid hsz
 go_loopw [7,8] (fun v7 v8 wr=>∃ (k:Nat),v8=.int .i64 k∧k≤n0∧wr.ownsRow w4.heap.size 47 7 v7 k (((l0.take k).map K.exQ32).flatMap Q.cells)∧Below w4.heap.size w4 wr) (fun _ v8 _=>n0 - (intOf v8).toNat)
 case atStart=>exact ⟨0,rfl,Nat.zero_le _,hown0,Below.refl _ _⟩
 case round =>
  clear hown0
  obtain ⟨k,rfl,hk,hown,hbr⟩:=hrel
  obtain ⟨A7,c7,rfl,hRd,hlc⟩:=own_form hown
  by_cases hlt:k < n0
  ·obtain ⟨ad,z,hA0,hz,cz⟩:=(hI.below (bel hb hbr)).at_ hlt
   have k0:(0:Int)≤(k:Int):=by omega
   have k1:(k:Int) < (n0:Int):=by omega
   obtain ⟨g9,hg9⟩:∃ g9,g9=wr.heap.size:=⟨_,rfl⟩
   obtain ⟨w5,hw5⟩:∃ w5:World,w5=wr.alloc (.cells #[.int .i64 1,.int .i64 0,.int .i64 z,.int .i64 5,.int .i64 1,.int .i64 1,.slice none 0 0] 47):=⟨_,rfl⟩
   have b5:Below wr.heap.size wr w5:=by rw [hw5];exact (Below.refl _ _).alloc (Nat.le_refl _) _
   have hB5:w5.heap[g9]? = some (.cells (K.exQ32 z).cells.toArray 47 (0,0)):=by rw [hw5,hg9];exact heap_alloc_new _ _
   have hown5:=own_below hown b5
   have hbs:w4.heap.size≤w5.heap.size:=Nat.le_trans hbr.size b5.size
   have HZ:=Lib.hid hz
   clear hz
   rw [hA0]
   go_wp2_with (first
    | (at_builtin;rw [←hw5,←hg9];refine app_req rfl _ _ rfl w4.heap.size _ k ((l0.take k).map K.exQ32) rfl hown5 g9 (K.exQ32 z) rfl hB5 (by omega) hbs ?_;intro v6 w6 hown6 hgrow6 _)
    | fail)
   have hb6:Below w4.heap.size w4 w6:=below_own2 (bel hbr b5) hgrow6 (fun g e=>(hown5.lt g e).1)
   have hnx:((l0.take (k + 1)).map K.exQ32)=(l0.take k).map K.exQ32 ++ [K.exQ32 z]:=by rw [take_snoc HZ.out,List.map_append,List.map_singleton]
   go_roundw
   case rel=>(go_light;exact ⟨k + 1,by go_num,hlt,by rw [hnx];exact hown6,hb6⟩)
   case measure=>(go_light;simp [intOf];omega)
  ·skip
   have hkn:k=n0:=by omega
   have d8:decide ((k:Int) < (n0:Int))=false:=by simp;omega
   have d8':decide (k < n0)=false:=by simp;omega
   have hll:n0=l0.length:=hI.1
   have HFM:=Lib.hid (show (l0.take k).map K.exQ32=l0.map K.exQ32 by rw [hkn,hll,List.take_length])
   have f0:wr.heap[w.heap.size]? = some (.cells #[.int .i64 0,.slice none 0 0] 24 (0,0)):=blk_below hbr e0
   have f1:wr.heap[w.heap.size + 1]? = some (.cells #[.int .i64 0,.int .i64 1,.int .i64 10,.int .i64 (-1),.int .i64 1,.int .i64 0,.int .i64 10,.int .i64 (-1)] 134 (0,0)):=blk_below hbr e1
   have f2:wr.heap[w.heap.size + 1 + 1]? = some (.cells #[.int .i64 2,.slice (some ⟨w.heap.size + 1,0,none⟩) 2 2] 24 (0,0)):=blk_below hbr e2
   have f3:wr.heap[w.heap.size + 1 + 1 + 1]? = some (.cells #[.int .i64 5] 3 (0,0)):=blk_below hbr e3
   have f4:wr.heap[w.heap.size + 1 + 1 + 1 + 1]? = some (.cells #[.int .i64 1,.int .i64 0,.int .i64 0,.int .i64 60,.int .i64 0,.slice (some ⟨w.heap.size + 1 + 1 + 1,0,none⟩) 1 1] 63 (0,0)):=blk_below hbr e4
   have hsz2:w.heap.size + 5≤wr.heap.size:=by have:=hbr.size;omega
   have HK:=Lib.hid hkn
   have HL:=Lib.hid hll
   clear hlt hkn hll e0 e1 e2 e3 e4 hk
   have hB0:But3 wr wr w.heap.size w.heap.size w.heap.size:=But3.refl _ _ _ _
   have hSet:∀ (w':World) (i:Nat) (v:Value),But3 wr w' w.heap.size w.heap.size w.heap.size→But3 wr (w'.setCell ⟨w.heap.size,i,none⟩ v) w.heap.size w.heap.size w.heap.size:=fun w' i v h=>h.set (.inl rfl) i v
   have hAlc:∀ (w':World) (o:Obj),But3 wr w' w.heap.size w.heap.size w.heap.size→But3 wr (w'.alloc o) w.heap.size w.heap.size w.heap.size:=fun w' o h=>h.below ((Below.refl _ _).alloc (Nat.le_refl _) _)
   have hDrw:∀ (w':World),But3 wr w' w.heap.size w.heap.size w.heap.size→But3 wr w'.drew w.heap.size w.heap.size w.heap.size:=fun w' h=>h.below (Below.refl _ _).drew
   have hk9:∀ (w':World) (g:Nat) (o:Obj),But3 wr w' w.heap.size w.heap.size w.heap.size→wr.heap[g]? = some o→g ≠ w.heap.size→w'.heap[g]? = some o:=fun w' g o h hg hl=>(h.block g (Array.getElem?_eq_some_iff.1 hg).1 hl hl hl).trans hg
   have hmk:∀ w',But3 wr w' w.heap.size w.heap.size w.heap.size→(fun (w':World)=>w'.cell? ⟨w.heap.size + 1 + 1,0,none⟩=some (.int .i64 2)∧w'.cell? ⟨w.heap.size + 1 + 1,1,none⟩=some (.slice (some ⟨w.heap.size + 1,0,none⟩) 2 2)∧w'.cell? ⟨w.heap.size + 1 + 1 + 1 + 1,0,none⟩=some (.int .i64 1)∧w'.cell? ⟨w.heap.size + 1 + 1 + 1 + 1,1,none⟩=some (.int .i64 0)∧w'.cell? ⟨w.heap.size + 1 + 1 + 1 + 1,2,none⟩=some (.int .i64 0)∧w'.cell? ⟨w.heap.size + 1 + 1 + 1 + 1,3,none⟩=some (.int .i64 60)∧w'.cell? ⟨w.heap.size + 1 + 1 + 1 + 1,4,none⟩=some (.int .i64 0)∧w'.cell? ⟨w.heap.size + 1 + 1 + 1 + 1,5,none⟩=some (.slice (some ⟨w.heap.size + 1 + 1 + 1,0,none⟩) 1 1)) w':=fun w' h=>by
    have x2:=hk9 w' _ _ h f2 (by omega)
    have x4:=hk9 w' _ _ h f4 (by omega)
    exact ⟨blk_cell x2 0 _ rfl,blk_cell x2 1 _ rfl,blk_cell x4 0 _ rfl,blk_cell x4 1 _ rfl,blk_cell x4 2 _ rfl,blk_cell x4 3 _ rfl,blk_cell x4 4 _ rfl,blk_cell x4 5 _ rfl⟩
   have pw0:=blk_cell f0 0 _ rfl
   have pw1:=blk_cell f0 1 _ rfl
   have fw0:=blk_free f0
   have fa:(wr.alloc (.cells #[.int .i64 1,.int .i64 0,.int .i64 0,.int .i64 60,.int .i64 0,.slice (some ⟨w.heap.size + 1 + 1 + 1,0,none⟩) 1 1,.int .i64 1,.int .i64 0,.int .i64 0,.int .i64 60,.int .i64 0,.slice (some ⟨w.heap.size + 1 + 1 + 1,0,none⟩) 1 1] 63)).heap[w.heap.size]? = some (.cells #[.int .i64 0,.slice none 0 0] 24 (0,0)):=blk_alloc f0 _
   have pa0:=blk_cell fa 0 _ rfl
   have pa1:=blk_cell fa 1 _ rfl
   have fw1:=blk_free fa
   have HFIN:∀ W:World,But3 wr W w.heap.size w.heap.size w.heap.size→W.heap[wr.heap.size]? = some (.cells #[.int .i64 1,.int .i64 0,.int .i64 0,.int .i64 60,.int .i64 0,.slice (some ⟨w.heap.size + 1 + 1 + 1,0,none⟩) 1 1,.int .i64 1,.int .i64 0,.int .i64 0,.int .i64 60,.int .i64 0,.slice (some ⟨w.heap.size + 1 + 1 + 1,0,none⟩) 1 1] 63 (0,0)) →
     (∃ x,IsEx32 l0 x∧CsAt W.drew x∧Ending.returned (.tuple #[.agg #[.int .i64 2,.slice (some ⟨w.heap.size + 1,0,none⟩) 2 2],.slice (some ⟨wr.heap.size,0,none⟩) 2 2,.slice A7 k c7])=.returned (.tuple #[.agg #[.int .i64 x.nd,.slice x.A x.n x.c],.slice x.SA x.sn x.sc,.slice x.B x.m x.d]))∧Below w.heap.size w W.drew:=fun W hW hS=>by
    have x1:=hk9 W _ _ hW f1 (by omega)
    have x3:=hk9 W _ _ hW f3 (by omega)
    have hown9:W.ownsRow w4.heap.size 47 7 (.slice A7 k c7) k ((l0.map K.exQ32).flatMap Q.cells):=by
     rw [←HFM.out]
     exact ownsRow_of hown fun g o hg hge=>hk9 W g o hW hg (by have:=HSZ.out;omega)
    obtain ⟨A8,c8,e8,hRd8,-⟩:=own_form hown9
    injection e8 with e81 e82 e83
    subst e81
    have hkl:k=l0.length:=HK.out.trans HL.out
    have hb9:=But3.below_of (bel hb hbr) hW (Nat.le_refl _) (Nat.le_refl _) (Nat.le_refl _)
    refine ⟨⟨⟨2,some ⟨w.heap.size + 1,0,none⟩,2,2,K.exL32,some ⟨wr.heap.size,0,none⟩,2,2,[K.exS32 (some ⟨w.heap.size + 1 + 1 + 1,0,none⟩) 1,K.exS32 (some ⟨w.heap.size + 1 + 1 + 1,0,none⟩) 1],A7,l0.length,c7,l0.map K.exQ32⟩,⟨_,_,_,_,_,_,_,_,rfl⟩,?_,by rw [hkl]⟩,hb9.drew⟩
    refine CsAt.below (w:=W) ⟨⟨rfl,Rd.of_block x1 4 2 rfl⟩,⟨⟨rfl,Rd.of_block (cs:=([K.exS32 (some ⟨w.heap.size + 1 + 1 + 1,0,none⟩) 1,K.exS32 (some ⟨w.heap.size + 1 + 1 + 1,0,none⟩) 1].flatMap S.cells).toArray) hS 6 2 rfl⟩,fun s hs=>?_⟩,⟨by simp,?_,fun q hq=>?_⟩,(show 2≤1000000000 by decide),fun s hs=>?_,(show 2≤1000000000 by decide),?_,fun q hq=>?_⟩ (Below.refl _ _).drew
    ·simp only [List.mem_cons,List.not_mem_nil,or_false] at hs
     rcases hs with rfl | rfl <;> exact ⟨rfl,Rd.of_block x3 1 1 rfl⟩
    ·rw [←hkl]
     rw [reqCells_flat]
     exact hRd8
    ·obtain ⟨z,-,rfl⟩:=List.mem_map.1 hq
     exact ⟨rfl,rfl,fun h=>absurd h (by show ¬ 0 < 0;omega)⟩
    ·simp only [List.mem_cons,List.not_mem_nil,or_false] at hs
     rcases hs with rfl | rfl <;> exact (by decide:1≤1000000000)
    ·show l0.length≤1000000000
     have:=HL.out
     omega
    ·obtain ⟨z,-,rfl⟩:=List.mem_map.1 hq
     exact (by decide:0≤1000000000)
   go_wp2_with fail
   go_region_held3 (fun (w':World)=>w'.cell? ⟨w.heap.size + 1 + 1,0,none⟩=some (.int .i64 2)∧w'.cell? ⟨w.heap.size + 1 + 1,1,none⟩=some (.slice (some ⟨w.heap.size + 1,0,none⟩) 2 2)∧w'.cell? ⟨w.heap.size + 1 + 1 + 1 + 1,0,none⟩=some (.int .i64 1)∧w'.cell? ⟨w.heap.size + 1 + 1 + 1 + 1,1,none⟩=some (.int .i64 0)∧w'.cell? ⟨w.heap.size + 1 + 1 + 1 + 1,2,none⟩=some (.int .i64 0)∧w'.cell? ⟨w.heap.size + 1 + 1 + 1 + 1,3,none⟩=some (.int .i64 60)∧w'.cell? ⟨w.heap.size + 1 + 1 + 1 + 1,4,none⟩=some (.int .i64 0)∧w'.cell? ⟨w.heap.size + 1 + 1 + 1 + 1,5,none⟩=some (.slice (some ⟨w.heap.size + 1 + 1 + 1,0,none⟩) 1 1))
    ((refine hmk _ ?_;repeat (first | with_reducible exact hB0 | with_reducible refine hSet _ _ _ ?_ | with_reducible refine hAlc _ _ ?_ | with_reducible refine hDrw _ ?_ | fail)))
    (fail)
   all_goals go_wp2_with fail
   all_goals clear pw0 pw1 fw0 pa0 pa1 fw1
   ·obtain ⟨WF,hWF⟩:∃ WF:World,WF=((wr.alloc (.cells #[.int .i64 1,.int .i64 0,.int .i64 0,.int .i64 60,.int .i64 0,.slice (some ⟨w.heap.size + 1 + 1 + 1,0,none⟩) 1 1,.int .i64 1,.int .i64 0,.int .i64 0,.int .i64 60,.int .i64 0,.slice (some ⟨w.heap.size + 1 + 1 + 1,0,none⟩) 1 1] 63)).setCell ⟨w.heap.size,0,none⟩ (.int .i64 2)).setCell ⟨w.heap.size,1,none⟩ (.slice (some ⟨w.heap.size + 1,0,none⟩) 2 2):=⟨_,rfl⟩
    have z0:WF.heap[w.heap.size]? = some (.cells #[.int .i64 2,.slice (some ⟨w.heap.size + 1,0,none⟩) 2 2] 24 (0,0)):=by rw [hWF];exact blk_set (blk_set fa 0 _) 1 _
    have zs:WF.heap[wr.heap.size]? = some (.cells #[.int .i64 1,.int .i64 0,.int .i64 0,.int .i64 60,.int .i64 0,.slice (some ⟨w.heap.size + 1 + 1 + 1,0,none⟩) 1 1,.int .i64 1,.int .i64 0,.int .i64 0,.int .i64 60,.int .i64 0,.slice (some ⟨w.heap.size + 1 + 1 + 1,0,none⟩) 1 1] 63 (0,0)):=by rw [hWF];exact blk_other (blk_other (heap_alloc_new _ _) _ (by omega)) _ (by omega)
    have hBF:But3 wr WF w.heap.size w.heap.size w.heap.size:=by rw [hWF];exact hSet _ _ _ (hSet _ _ _ (hAlc _ _ hB0))
    rw [←hWF]
    clear hWF fa
    refine bodyPost_ret_by (v:=.tuple #[.agg #[.int .i64 2,.slice (some ⟨w.heap.size + 1,0,none⟩) 2 2],.slice (some ⟨wr.heap.size,0,none⟩) 2 2,.slice A7 k c7]) ?_ rfl ?_
    ·have c0:WF.drew.cell? ⟨w.heap.size,0,none⟩=some (.int .i64 2):=blk_cell z0 0 _ rfl
     have c1:WF.drew.cell? ⟨w.heap.size,1,none⟩=some (.slice (some ⟨w.heap.size + 1,0,none⟩) 2 2):=blk_cell z0 1 _ rfl
     rw [results_cell_tmp2 rfl]
     simp [go_sem,c0,c1]
    ·exact HFIN WF hBF zs
   ·obtain ⟨WF,hWF⟩:∃ WF:World,WF=((wr.setCell ⟨w.heap.size,0,none⟩ (.int .i64 2)).setCell ⟨w.heap.size,1,none⟩ (.slice (some ⟨w.heap.size + 1,0,none⟩) 2 2)).alloc (.cells #[.int .i64 1,.int .i64 0,.int .i64 0,.int .i64 60,.int .i64 0,.slice (some ⟨w.heap.size + 1 + 1 + 1,0,none⟩) 1 1,.int .i64 1,.int .i64 0,.int .i64 0,.int .i64 60,.int .i64 0,.slice (some ⟨w.heap.size + 1 + 1 + 1,0,none⟩) 1 1] 63):=⟨_,rfl⟩
    have z0:WF.heap[w.heap.size]? = some (.cells #[.int .i64 2,.slice (some ⟨w.heap.size + 1,0,none⟩) 2 2] 24 (0,0)):=by rw [hWF];exact blk_alloc (blk_set (blk_set f0 0 _) 1 _) _
    have zs:WF.heap[wr.heap.size]? = some (.cells #[.int .i64 1,.int .i64 0,.int .i64 0,.int .i64 60,.int .i64 0,.slice (some ⟨w.heap.size + 1 + 1 + 1,0,none⟩) 1 1,.int .i64 1,.int .i64 0,.int .i64 0,.int .i64 60,.int .i64 0,.slice (some ⟨w.heap.size + 1 + 1 + 1,0,none⟩) 1 1] 63 (0,0)):=by rw [hWF];exact heap_alloc_at _ (.cells #[.int .i64 1,.int .i64 0,.int .i64 0,.int .i64 60,.int .i64 0,.slice (some ⟨w.heap.size + 1 + 1 + 1,0,none⟩) 1 1,.int .i64 1,.int .i64 0,.int .i64 0,.int .i64 60,.int .i64 0,.slice (some ⟨w.heap.size + 1 + 1 + 1,0,none⟩) 1 1] 63) wr.heap.size (by simp only [World.size_setCell])
    have hBF:But3 wr WF w.heap.size w.heap.size w.heap.size:=by rw [hWF];exact hAlc _ _ (hSet _ _ _ (hSet _ _ _ hB0))
    rw [←hWF]
    clear hWF fa
    refine bodyPost_ret_by (v:=.tuple #[.agg #[.int .i64 2,.slice (some ⟨w.heap.size + 1,0,none⟩) 2 2],.slice (some ⟨wr.heap.size,0,none⟩) 2 2,.slice A7 k c7]) ?_ rfl ?_
    ·have c0:WF.drew.cell? ⟨w.heap.size,0,none⟩=some (.int .i64 2):=blk_cell z0 0 _ rfl
     have c1:WF.drew.cell? ⟨w.heap.size,1,none⟩=some (.slice (some ⟨w.heap.size + 1,0,none⟩) 2 2):=blk_cell z0 1 _ rfl
     rw [results_cell_tmp2 rfl]
     simp [go_sem,c0,c1]
    ·exact HFIN WF hBF zs
namespace K
structure An where
 acc:Bool
 tours:List (Int × Tr)
 blk:List Int
 proof:List (Int × List Int × List Lb)
def An.zero:An:=⟨false,[],[],[]⟩
end K
namespace K
def many33 (m:Nat):Nat:=m % 2 + m / 2 % 2 + m / 4 % 2 + m / 8 % 2
theorem bits33:∀ n:Fin 5,∀ m:Fin 16,m.val < 2 ^ n.val→num (part (iota n.val) m.val)=m.val∧many33 m.val=(part (iota n.val) m.val).length:=by decide +kernel
theorem iota_len (n:Nat):(iota n).length=n:=by unfold iota;rw [List.length_map,List.length_range]
theorem part_iota {n m:Nat} (hn:n≤4) (hm:m < 2 ^ n):num (part (iota n) m)=m∧many33 m=(part (iota n) m).length:=by
 have h16:m < 16:=Nat.lt_of_lt_of_le hm (Nat.pow_le_pow_right (by decide) hn)
 exact bits33 ⟨n,by omega⟩ ⟨m,h16⟩ hm
end K
namespace A
theorem share_app (s:Nat):∀ (d e:List Nat) (i:Int),share (d ++ e) s i=share d s i ++ share e s (i + d.length)
 | [],e,i=>by simp [share]
 | x :: d,e,i=>by
  rw [List.cons_append,share,share,share_app s d e (i + 1),List.length_cons]
  have h:i + 1 + (d.length:Int)=i + ((d.length + 1:Nat):Int):=by omega
  rw [h]
  split <;> rfl
def next (m:Nat):List Nat→Option (List Nat)
 | []=>none
 | x :: d=>match next m d with
  | some d'=>some (x :: d')
  | none=>if x + 1 < m then some ((x + 1) :: List.replicate d.length 0) else none
def Chain (m:Nat) (L:List (List Nat)) (z:Option (List Nat)):Prop:=∀ pre x post,L=pre ++ x :: post→next m x=(post.head?).or z
theorem chain_nil (m:Nat) (z:Option (List Nat)):Chain m [] z:=fun pre x post h=>by simp at h
theorem chain_app {m:Nat}:∀ {L1 L2:List (List Nat)} {z:Option (List Nat)},Chain m L1 ((L2.head?).or z)→Chain m L2 z→Chain m (L1 ++ L2) z:=by
 intro L1 L2 z h1 h2 pre x post h
 rcases List.append_eq_append_iff.1 h with ⟨a,e1,e2⟩ | ⟨a,e1,e2⟩
 ·-- pre=L1 ++ a,L2=a ++ x :: post
  exact h2 a x post e2
 ·-- L1=pre ++ a,x :: post=a ++ L2
  cases a with
  | nil =>
   rw [List.nil_append] at e2
   exact h2 [] x post e2.symm
  | cons b a =>
   rw [List.cons_append] at e2
   injection e2 with e3 e4
   subst e3
   have:=h1 pre x a e1
   rw [this,e4]
   cases a with
   | nil=>rfl
   | cons c a=>rfl
theorem exts_head {m:Nat} (hm:0 < m):∀ k,(exts m k).head? = some (List.replicate k 0)
 | 0=>rfl
 | k + 1=>by
  obtain ⟨m',rfl⟩:∃ m',m=m' + 1:=⟨m - 1,by omega⟩
  rw [exts,List.range_succ_eq_map,List.flatMap_cons,List.head?_append,List.head?_map,exts_head hm k]
  rfl
theorem chain_exts {m:Nat} (hm:0 < m):∀ k,Chain m (exts m k) none
 | 0=>fun pre x post h=>by
  cases pre with
  | nil =>
   rw [exts,List.nil_append] at h
   injection h with h1 h2
   subst h1 h2
   rfl
  | cons b pre =>
   rw [exts,List.cons_append] at h
   injection h with h1 h2
   exact absurd h2 (by simp)
 | k + 1=>by
  have ih:=chain_exts hm k
  have hb:∀ s,Chain m ((exts m k).map (s :: ·)) (if s + 1 < m then some ((s + 1) :: List.replicate k 0) else none):=fun s pre x post h=>by
   obtain ⟨L1,L2,e0,e1,e2⟩:=List.map_eq_append_iff.1 h
   cases L2 with
   | nil=>cases e2
   | cons y L2 =>
    rw [List.map_cons] at e2
    injection e2 with e3 e4
    subst e3 e4
    have hy:=ih L1 y L2 e0
    have hyl:y.length=k:=(mem_exts.1 (show y ∈ exts m k by rw [e0];simp)).1
    rw [next,hy,hyl]
    cases L2 with
    | nil=>rfl
    | cons c L2=>rfl
  have hr:∀ n s,s + n=m→Chain m ((List.range' s n).flatMap fun s=>(exts m k).map (s :: ·)) none:=by
   intro n
   induction n with
   | zero=>intro s _;exact chain_nil m none
   | succ n ihn =>
    intro s hs
    rw [List.range'_succ,List.flatMap_cons]
    refine chain_app ?_ (ihn (s + 1) (by omega))
    have h1:=hb s
    have h2:(if s + 1 < m then some ((s + 1) :: List.replicate k 0) else none)=(((List.range' (s + 1) n).flatMap fun s=>(exts m k).map (s :: ·)).head?).or none:=by
     cases n with
     | zero=>rw [if_neg (by omega)];rfl
     | succ n =>
      rw [if_pos (by omega),List.range'_succ,List.flatMap_cons,List.head?_append,List.head?_map,exts_head hm k]
      rfl
    rw [←h2]
    exact h1
  have:=hr m 0 (by omega)
  rw [exts,List.range_eq_range']
  exact this
theorem next_exts {m k j:Nat} (hm:0 < m) {d:List Nat} (h:(exts m k)[j]? = some d):next m d=(exts m k)[j + 1]?:=by
 obtain ⟨hj,e⟩:=List.getElem?_eq_some_iff.1 h
 have:=chain_exts hm k ((exts m k).take j) d ((exts m k).drop (j + 1)) (by rw [←e,←List.drop_eq_getElem_cons hj,List.take_append_drop])
 rw [this,List.head?_drop]
 cases (exts m k)[j + 1]? <;> rfl
theorem next_at {m:Nat}:∀ (d:List Nat) (i:Nat),next m (d.drop (i + 1))=none→∀ x,d[i]? = some x→next m (d.drop i)=if x + 1 < m then some ((x + 1) :: List.replicate (d.length - (i + 1)) 0) else none:=by
 intro d i h x hx
 obtain ⟨hi,e⟩:=List.getElem?_eq_some_iff.1 hx
 rw [List.drop_eq_getElem_cons hi,e,next,h,List.length_drop]
theorem next_pre {m:Nat}:∀ (pre d d':List Nat),next m d=some d'→next m (pre ++ d)=some (pre ++ d')
 | [],d,d',h=>h
 | x :: pre,d,d',h=>by rw [List.cons_append,next,next_pre pre d d' h];rfl
end A
namespace A
def val (m:Nat):List Nat→Nat
 | []=>0
 | x :: d=>x * m ^ d.length + val m d
theorem val_zero (m:Nat):∀ n,val m (List.replicate n 0)=0
 | 0=>rfl
 | n + 1=>by rw [List.replicate_succ,val,val_zero m n,Nat.zero_mul]
theorem val_lt {m:Nat}:∀ {d:List Nat},(∀ s ∈ d,s < m)→val m d < m ^ d.length
 | [],_=>by simp [val]
 | x :: d,h=>by
  have h1:=h x (List.mem_cons_self ..)
  have h2:=val_lt fun s hs=>h s (List.mem_cons_of_mem _ hs)
  rw [val,List.length_cons,Nat.pow_succ]
  have h3:(x + 1) * m ^ d.length≤m * m ^ d.length:=Nat.mul_le_mul_right _ h1
  rw [Nat.succ_mul] at h3
  rw [Nat.mul_comm (m ^ d.length) m]
  omega
theorem val_next {m:Nat}:∀ {d:List Nat},(∀ s ∈ d,s < m)→(∀ d',next m d=some d'→val m d'=val m d + 1∧d'.length=d.length∧∀ s ∈ d',s < m)∧(next m d=none→val m d + 1=m ^ d.length)
 | [],_=>⟨fun d' h=>(by cases h),fun _=>by simp [val]⟩
 | x :: d,h=>by
  have h1:=h x (List.mem_cons_self ..)
  have hd:∀ s ∈ d,s < m:=fun s hs=>h s (List.mem_cons_of_mem _ hs)
  obtain ⟨i1,i2⟩:=val_next hd
  cases hn:next m d with
  | some d1 =>
   obtain ⟨g1,g2,g3⟩:=i1 d1 hn
   refine ⟨fun d' h'=>?_,fun h'=>?_⟩
   ·rw [next,hn] at h'
    injection h' with h'
    subst h'
    refine ⟨by rw [val,val,g1,g2];omega,by rw [List.length_cons,List.length_cons,g2],fun s hs=>?_⟩
    rcases List.mem_cons.1 hs with rfl | hs
    ·exact h1
    ·exact g3 s hs
   ·rw [next,hn] at h'
    cases h'
  | none =>
   have i3:=i2 hn
   by_cases hx:x + 1 < m
   ·refine ⟨fun d' h'=>?_,fun h'=>?_⟩
    ·rw [next,hn] at h'
     dsimp only at h'
     rw [if_pos hx] at h'
     injection h' with h'
     subst h'
     refine ⟨by rw [val,val,val_zero,List.length_replicate,Nat.succ_mul];omega,by simp,fun s hs=>?_⟩
     rcases List.mem_cons.1 hs with rfl | hs
     ·exact hx
     ·have:=List.eq_of_mem_replicate hs
      omega
    ·rw [next,hn] at h'
     dsimp only at h'
     rw [if_pos hx] at h'
     cases h'
   ·refine ⟨fun d' h'=>?_,fun _=>?_⟩
    ·rw [next,hn] at h'
     dsimp only at h'
     rw [if_neg hx] at h'
     cases h'
    ·have e:m=x + 1:=by omega
     rw [val,List.length_cons,Nat.pow_succ,Nat.mul_comm (m ^ d.length) m]
     have h3:m * m ^ d.length=x * m ^ d.length + m ^ d.length:=by
      conv=>lhs;rw [show m * m ^ d.length=(x + 1) * m ^ d.length by rw [←e]]
      rw [Nat.succ_mul]
     omega
theorem exts_zero {m:Nat} (hm:0 < m) (k:Nat):(exts m k)[0]? = some (List.replicate k 0):=by
 rw [←exts_head hm k,List.head?_eq_getElem?]
theorem first_at {B:Nat→List Int→Bool} {m n j:Nat} {d:List Nat} (hj:(exts m n)[j]? = some d) (hb:∀ e ∈ (exts m n).take j,possible B m e=false) (hd:possible B m d=true):first B m n=some d:=by
 obtain ⟨hl,e⟩:=List.getElem?_eq_some_iff.1 hj
 unfold first
 have h1:exts m n=(exts m n).take j ++ d :: (exts m n).drop (j + 1):=by rw [←e,←List.drop_eq_getElem_cons hl,List.take_append_drop]
 rw [h1,List.find?_append,List.find?_eq_none.2 (fun x hx=>by rw [hb x hx];simp),Option.none_or,List.find?_cons_of_pos hd]
theorem first_none {B:Nat→List Int→Bool} {m n:Nat} (hb:∀ e ∈ exts m n,possible B m e=false):first B m n=none:=by
 unfold first
 exact List.find?_eq_none.2 fun x hx=>by rw [hb x hx];simp
end A
theorem filterMap_congrT {α β:Type} {f g:α→Option β}:∀ (l:List α),(∀ x ∈ l,f x=g x)→l.filterMap f=l.filterMap g
 | [],_=>rfl
 | a :: l,h=>by rw [List.filterMap_cons,List.filterMap_cons,h a (List.mem_cons_self ..),filterMap_congrT l fun x hx=>h x (List.mem_cons_of_mem _ hx)]
namespace K
def bAt (nd:Int) (l:List Ro) (s:S) (r:List Q) (n:Nat):Tr × Int:=if n=0 then (Tr.zero,0) else bestOut nd l s r (part (iota r.length) n)
theorem part_num {n:Nat} {v:List Int} (hn:n≤4) (hv:v.Pairwise (· < ·)) (hm:∀ x ∈ v,0≤x∧x < (n:Int)):part (iota n) (num v)=v∧num v < 2 ^ n:=by
 obtain ⟨m,h1,h2⟩:=sub_mask2 (A.sub_of_sorted hv (iota_sorted n) fun x hx=>mem_iota.2 (hm x hx))
 rw [iota_len] at h1
 have h3:=(part_iota hn h1).1
 rw [h2] at h3
 rw [h3]
 exact ⟨h2,h1⟩
theorem part_none:∀ (l:List Int),part l 0=[]
 | []=>rfl
 | i :: l=>by
  rw [part,if_neg (by rw [Nat.zero_testBit];decide),Nat.zero_div]
  exact part_none l
theorem num_nil {n:Nat} {v:List Int} (hn:n≤4) (hv:v.Pairwise (· < ·)) (hm:∀ x ∈ v,0≤x∧x < (n:Int)):num v=0 ↔ v=[]:=by
 constructor
 ·intro h
  have h1:=(part_num hn hv hm).1
  rw [h,part_none] at h1
  exact h1.symm
 ·intro h
  rw [h]
  rfl
section
variable {nd : Int} {l : List Ro} {ss : List S} {r : List Q}
theorem bAt_share {x:S} (hr:r.length≤4) {v:List Int} (hv:v.Pairwise (· < ·)) (hm:∀ y ∈ v,0≤y∧y < (r.length:Int)):bAt nd l x r (num v)=if v.isEmpty=true then (Tr.zero,0) else bestOut nd l x r v:=by
 unfold bAt
 by_cases h:v=[]
 ·subst h
  rw [if_pos (show num [] = 0 from rfl),if_pos (show ([]:List Int).isEmpty=true from rfl)]
 ·rw [if_neg (fun e=>h ((num_nil hr hv hm).1 e)),if_neg (fun e=>h (List.isEmpty_iff.1 e)),(part_num hr hv hm).1]
def rposs (nd:Int) (l:List Ro) (ss:List S) (r:List Q) (d:List Nat) (n:Nat):Bool:=(List.range n).all fun s=>match ss[s]? with
 | none=>false
 | some x=>(bAt nd l x r (num (A.share d s 0))).2 == 0
def rtour (nd:Int) (l:List Ro) (ss:List S) (r:List Q) (d:List Nat) (s:Nat):Option (Nat × Tr):=if num (A.share d s 0)=0 then none else match ss[s]? with
 | none=>none
 | some x=>some (s,(bAt nd l x r (num (A.share d s 0))).1)
def rtours (nd:Int) (l:List Ro) (ss:List S) (r:List Q) (d:List Nat) (n:Nat):List (Nat × Tr):=(List.range n).filterMap (rtour nd l ss r d)
theorem share_in {d:List Nat} (hd:d.length=r.length) (s:Nat):∀ y ∈ A.share d s 0,0≤y∧y < (r.length:Int):=fun y hy=>by
 have:=A.share_mem hy
 omega
theorem rposs_eq (hr:r.length≤4) {d:List Nat} (hd:d.length=r.length):rposs nd l ss r d ss.length=A.possible (feas nd l ss r) ss.length d:=by
 unfold rposs A.possible
 rw [Bool.eq_iff_iff,List.all_eq_true,List.all_eq_true]
 refine forall_congr' fun s=>forall_congr' fun hs=>?_
 have hs':=List.mem_range.1 hs
 rw [List.getElem?_eq_getElem hs']
 dsimp only
 rw [bAt_share hr (A.share_sorted d s 0) (share_in hd s)]
 unfold feas
 rw [List.getElem?_eq_getElem hs']
 dsimp only
 cases (A.share d s 0).isEmpty
 ·rw [if_neg (by decide),Bool.false_or]
 ·rw [if_pos rfl]
  simp
theorem rtours_eq (hr:r.length≤4) {d:List Nat} (hd:d.length=r.length) (hp:rposs nd l ss r d ss.length=true):rtours nd l ss r d ss.length=toursOf nd l ss r d:=by
 unfold rtours toursOf
 have key:∀ s ∈ List.range ss.length,rtour nd l ss r d s=tourAt nd l ss r d s:=fun s hs=>by
  have hs':=List.mem_range.1 hs
  have h1:=List.all_eq_true.1 hp s hs
  unfold rtour tourAt
  rw [List.getElem?_eq_getElem hs'] at h1 ⊢
  dsimp only at h1 ⊢
  rw [bAt_share hr (A.share_sorted d s 0) (share_in hd s)] at h1 ⊢
  by_cases he:A.share d s 0=[]
  ·have h2:(A.share d s 0).isEmpty=true:=List.isEmpty_iff.2 he
   rw [if_pos ((num_nil hr (A.share_sorted d s 0) (share_in hd s)).2 he),if_pos h2]
  ·have h2:¬ (A.share d s 0).isEmpty=true:=fun e=>he (List.isEmpty_iff.1 e)
   rw [if_neg h2] at h1
   rw [if_neg (fun e=>he ((num_nil hr (A.share_sorted d s 0) (share_in hd s)).1 e)),if_neg h2,if_neg h2]
   obtain ⟨g1,t,g2⟩:=bestOut_zero.1 (beq_iff_eq.1 h1)
   rw [bestOut_some g1 g2,g2]
   rfl
 exact filterMap_congrT _ key
theorem rposs_succ {d:List Nat} {s:Nat} {x:S} (hx:ss[s]? = some x):rposs nd l ss r d (s + 1)=(rposs nd l ss r d s && ((bAt nd l x r (num (A.share d s 0))).2 == 0)):=by
 unfold rposs
 rw [List.range_succ,List.all_append,List.all_cons,List.all_nil,Bool.and_true,hx]
theorem rtours_none {d:List Nat} {s:Nat} (h:num (A.share d s 0)=0):rtours nd l ss r d (s + 1)=rtours nd l ss r d s:=upto_none (by unfold rtour;rw [if_pos h])
theorem rtours_some {d:List Nat} {s:Nat} {x:S} (hx:ss[s]? = some x) (h:num (A.share d s 0) ≠ 0):rtours nd l ss r d (s + 1)=rtours nd l ss r d s ++ [(s,(bAt nd l x r (num (A.share d s 0))).1)]:=upto_some (by unfold rtour;rw [if_neg h,hx])
theorem plan_found (h:pcheck nd l ss r=0) (hr:r.length≤4) {j:Nat} {d:List Nat} (hj:(A.exts ss.length r.length)[j]? = some d) (hb:∀ e ∈ (A.exts ss.length r.length).take j,A.possible (feas nd l ss r) ss.length e=false) (hp:rposs nd l ss r d ss.length=true) :
  plan nd l ss r=(rtours nd l ss r d ss.length,0):=by
 have hd:=(A.mem_exts.1 (List.mem_of_getElem? hj)).1
 have h1:=A.first_at hj hb (by rw [←rposs_eq hr hd];exact hp)
 unfold plan
 rw [if_pos h,h1,rtours_eq hr hd hp]
theorem plan_no (h:pcheck nd l ss r=0) (hb:∀ e ∈ A.exts ss.length r.length,A.possible (feas nd l ss r) ss.length e=false):plan nd l ss r=([],4):=by
 unfold plan
 rw [if_pos h,A.first_none hb]
end
theorem exts_head0 {m k:Nat} (h:0 < m∨k=0):(A.exts m k)[0]? = some (List.replicate k 0):=by
 rcases h with h | h
 ·exact A.exts_zero h k
 ·subst h
  rfl
theorem exts_no (k:Nat):A.exts 0 (k + 1)=[]:=rfl
end K
namespace K
structure Kp where
 kept:List Int
 served:List Q
 tours:List (Int × Tr)
 reasons:List (List (Int × List Int × List Lb))
def Kp.zero:Kp:=⟨[],[],[],[]⟩
end K
def S.rooms (s:S) (A:Option Addr) (c:Nat):S:=⟨s.day,s.depot,s.start,s.end_,s.tare,A,s.n,c,s.l⟩
end Go.Proofs.YtippdjmpkafifaaGreat
