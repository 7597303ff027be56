import Derived.Test.YtippdjmpkafifaaGreatCF12
import Derived.Test.YtippdjmpkafifaaGreatCF14
import Derived.Test.YtippdjmpkafifaaGreatCF7
namespace Go.Proofs.YtippdjmpkafifaaGreat
open Go.RowKit
set_option maxHeartbeats 4000000 in
theorem has55_any (A:Option Addr) (n c:Nat) (l:List Int) (x:Int) (w:World) (hl:Ints w A n l) (hn:n≤1000000000) :
  Calls Tryz.prog 55 #[.slice A n c,.int .i64 x] w fun e w'=>e=.returned (.bool (l.any (· == x)))∧Below w.heap.size w w':=by
 go_enter Tryz.func55,Tryz.ntmps55
 go_wp2_with fail
 go_loopw [5] (fun vi wr=>∃ k:Nat,vi=.int .i64 k∧k≤n∧Hid (l.any (· == x)=(l.drop k).any (· == x))∧Below w.heap.size w wr) (fun vi _=>n - (intOf vi).toNat)
 case atStart=>exact ⟨0,rfl,by omega,by show _=_;rw [List.drop_zero],Below.refl _ _⟩
 case round =>
  obtain ⟨k,rfl,hk,hr,hW⟩:=hrel
  by_cases hlt:k < n
  ·obtain ⟨ad,y,rfl,hg,c0⟩:=(hl.below hW).at_ hlt
   have HS:=Lib.hid (drop_any (p:=(· == x)) hg)
   have k0:(0:Int)≤(k:Int):=by omega
   have k1:(k:Int) < (n:Int):=by omega
   clear hg
   by_cases hxy:y=x
   ·have hd1:decide (y=x)=true:=decide_eq_true hxy
    have hd2:(y == x)=true:=beq_iff_eq.2 hxy
    have HR9:=Lib.hid hd2
    clear hxy
    go_wp2_with fail
    go_ret
    exact ⟨by rw [hr.out,HS.out,HR9.out];rfl,hW⟩
   ·have hd1:decide (y=x)=false:=decide_eq_false hxy
    have hd2:(y == x)=false:=beq_eq_false_iff_ne.2 hxy
    have HR9:=Lib.hid hd2
    clear hxy
    go_wp2_with fail
    go_roundw
    case rel=>exact ⟨k + 1,by go_num,by omega,by show _=_;rw [hr.out,HS.out,HR9.out];rfl,hW⟩
    case measure=>simp [intOf];omega
  ·have HD:=Lib.hid (show l.drop k=[] from List.drop_eq_nil_of_le (by rw [←hl.1];omega))
   go_wp2_with fail
   go_ret
   exact ⟨by rw [hr.out,HD.out];rfl,hW⟩
set_option maxHeartbeats 4000000 in
theorem rpart80_any (PA:Option Addr) (n c:Nat) (l:List Int) (B:Option Addr) (m d:Nat) (v:List Int) (w:World) (hl:Ints w PA n l) (hn:n≤1000000000) (hv:Ints w B m v) (hm:m≤1000000000) :
  Calls Tryz.prog 80 #[.slice PA n c,.slice B m d] w fun e w'=>e=.returned (.bool (A.part l v))∧Below w.heap.size w w':=by
 obtain ⟨R,hR⟩:∃ R,R=A.part l v:=⟨_,rfl⟩
 rw [←hR]
 have HR:=Lib.hid (show R=l.all fun x=>v.any (· == x) from hR)
 clear hR
 go_enter Tryz.func80,Tryz.ntmps80
 go_wp2_with fail
 go_loopw [5] (fun vi wr=>∃ k:Nat,vi=.int .i64 k∧k≤n∧Hid (R=(l.drop k).all fun x=>v.any (· == x))∧Below w.heap.size w wr) (fun vi _=>n - (intOf vi).toNat)
 case atStart=>exact ⟨0,rfl,by omega,by show _=_;rw [List.drop_zero];exact HR.out,Below.refl _ _⟩
 case round =>
  obtain ⟨k,rfl,hk,hr,hW⟩:=hrel
  by_cases hlt:k < n
  ·obtain ⟨ad,y,rfl,hg,c0⟩:=(hl.below hW).at_ hlt
   have HS:=Lib.hid (drop_all (p:=fun x=>v.any (· == x)) hg)
   have k0:(0:Int)≤(k:Int):=by omega
   have k1:(k:Int) < (n:Int):=by omega
   obtain ⟨b,hb⟩:∃ b,b=v.any (· == y):=⟨_,rfl⟩
   have HB:=Lib.hid hb
   clear hg hb
   go_wp2_with fail
   refine (has55_any B m d v y wr (hv.below hW) hm).mono ?_
   rw [←HB.out]
   rintro e w1 ⟨rfl,b1⟩
   have hW1:=bel hW b1
   cases b
   ·go_wp2_with fail
    go_ret
    exact ⟨by rw [hr.out,HS.out,←HB.out];rfl,hW1⟩
   ·go_wp2_with fail
    go_roundw
    case rel=>exact ⟨k + 1,by go_num,by omega,by show _=_;rw [hr.out,HS.out,←HB.out];rfl,hW1⟩
    case measure=>simp [intOf];omega
  ·have HD:=Lib.hid (show l.drop k=[] from List.drop_eq_nil_of_le (by rw [←hl.1];omega))
   go_wp2_with fail
   go_ret
   exact ⟨by rw [hr.out,HD.out];rfl,hW⟩
namespace K
def right32 (nd:Int) (l:List Ro) (ss:List S) (r:List Q):Bool:=(netErr nd l == 0) && (decide (ss.length≤4) && (!ss.any (badS nd) && !r.any (badQ nd)))
theorem pcheck_right (nd:Int) (l:List Ro) (ss:List S) (r:List Q):pcheck nd l ss r=if right32 nd l ss r=true then (if 6 < r.length then 6 else 0) else 1:=by
 unfold pcheck right32
 by_cases h1:netErr nd l=0
 ·by_cases h2:ss.length≤4
  ·cases h3:ss.any (badS nd) <;> cases h4:r.any (badQ nd) <;> simp [h1,h2]
  ·cases h3:ss.any (badS nd) <;> cases h4:r.any (badQ nd) <;> simp [h1,h2]
 ·simp [h1]
end K
set_option maxRecDepth 100000 in
set_option maxHeartbeats 16000000 in
theorem rright111_any (x:Cs) (w:World) (hx:CsAt w x) :
  Calls Tryz.prog 111 #[.agg #[.int .i64 x.nd,.slice x.A x.n x.c],.slice x.SA x.sn x.sc,.slice x.B x.m x.d] w fun e w'=>e=.returned (.bool (K.right32 x.nd x.l x.ss x.r))∧Below w.heap.size w w':=by
 obtain ⟨R,hR⟩:∃ R,R=K.right32 x.nd x.l x.ss x.r:=⟨_,rfl⟩
 rw [←hR]
 have HR:=Lib.hid (show R=((K.netErr x.nd x.l == 0) && (decide (x.ss.length≤4) && (!x.ss.any (K.badS x.nd) && !x.r.any (K.badQ x.nd)))) from hR)
 clear hR
 obtain ⟨w1,hw1⟩:∃ w1:World,w1=w.alloc (.cells #[.int .i64 x.nd,.slice x.A x.n x.c] 24):=⟨_,rfl⟩
 have b0:Below w.heap.size w w1:=by rw [hw1];exact (Below.refl _ _).alloc (Nat.le_refl _) _
 obtain ⟨G0,hG0⟩:∃ G0,G0=w.heap.size:=⟨_,rfl⟩
 have hN:Net w1 G0 x.nd x.A x.n x.c:=by rw [hw1,hG0];exact Net.new w x.nd x.A x.n x.c
 have hsnb:=hx.b3
 have hmb:=hx.b4
 have HSN:=Lib.hid hx.shifts.1.1
 have HRN:=Lib.hid hx.reqs.1
 have p0:=hN.c0
 have p1:=hN.c1
 obtain ⟨ne,hne⟩:∃ ne,ne=K.netErr x.nd x.l:=⟨_,rfl⟩
 go_enter Tryz.func111,Tryz.ntmps111
 go_wp2_with fail
 rw [←hw1,←hG0]
 clear hw1 hG0
 refine (rnetcheck_any x.nd x.A x.n x.c x.l _ (Lst.below hx.net b0) hx.b1).mono ?_
 rw [←hne]
 rintro e w2 ⟨rfl,b2⟩
 have HNE:=Lib.hid hne
 have hN:=hN.below b2
 have hb2:=bel b0 b2
 clear p0 p1 b0 b2 hne
 by_cases hz:ne=0
 rotate_left
 ·have hd:(ne != 0)=true:=by simp [bne,hz]
  have HX:=Lib.hid (show R=false by rw [HR.out,←HNE.out];simp [hz])
  have hd2:decide (ne=0)=false:=by simp [hz]
  clear hz
  go_wp2_with fail
  go_ret
  exact ⟨by rw [HX.out];rfl,hb2⟩
 subst hz
 by_cases h4:x.sn≤4
 rotate_left
 ·have hd:decide ((4:Int) < (x.sn:Int))=true:=by simp;omega
  have hd2:decide (4 < x.sn)=true:=by simp;omega
  have HX:=Lib.hid (show R=false by rw [HR.out,←HSN.out];simp [h4])
  clear h4
  go_wp2_with fail
  go_ret
  exact ⟨by rw [HX.out];rfl,hb2⟩
 have hd:decide ((4:Int) < (x.sn:Int))=false:=by simp;omega
 have hd2:decide (4 < x.sn)=false:=by simp;omega
 have HR2:=Lib.hid (show R=(!x.ss.any (K.badS x.nd) && !x.r.any (K.badQ x.nd)) by
  have h0:(K.netErr x.nd x.l == 0)=true:=by rw [←HNE.out];rfl
  have h9:decide (x.ss.length≤4)=true:=decide_eq_true (by rw [←HSN.out];exact h4)
  rw [HR.out,h0,h9,Bool.true_and,Bool.true_and])
 clear HR HNE
 go_wp2_with fail
 clear hd hd2
 go_loopw [7] (fun v wr=>∃ k:Nat,v=.int .i64 k∧k≤x.sn∧Hid (x.ss.any (K.badS x.nd)=(x.ss.drop k).any (K.badS x.nd))∧Below w2.heap.size w2 wr) (fun v _=>x.sn - (intOf v).toNat)
 case atStart=>exact ⟨0,rfl,Nat.zero_le _,(by show _=_;rw [List.drop_zero]),Below.refl _ _⟩
 case round =>
  obtain ⟨k,rfl,hk,hr,hbr⟩:=hrel
  have hbw:=bel hb2 hbr
  by_cases hlt:k < x.sn
  ·obtain ⟨ad,s,hA,hs,hI,c0,c1,c2,c3,c4,c5⟩:=(hx.shifts.below hbw).at_ hlt
   have HS:=Lib.hid (drop_any (p:=K.badS x.nd) hs)
   have hsn:=hx.b2 s (List.mem_of_getElem? hs)
   have k0:(0:Int)≤(k:Int):=by omega
   have k1:(k:Int) < (x.sn:Int):=by omega
   obtain ⟨ce,hce⟩:∃ ce,ce=T.check s:=⟨_,rfl⟩
   have CK:∀ i:Beh wr,Calls Tryz.prog 154 #[.agg #[.int .i64 s.day,.int .i64 s.depot,.int .i64 s.start,.int .i64 s.end_,.int .i64 s.tare,.slice s.A s.n s.c]] i.val fun e w'=>e=.returned (.int .i64 ce)∧Below i.val.heap.size i.val w':=fun i=>by rw [hce];exact rcheck_any s i.val (hI.below i.property) hsn
   have q0:=Beh.cell (hN.below hbr).c0
   have e0:=Beh.cell c0
   have e1:=Beh.cell c1
   have e2:=Beh.cell c2
   have e3:=Beh.cell c3
   have e4:=Beh.cell c4
   have e5:=Beh.cell c5
   have HBD:=Lib.hid (show K.badS x.nd s=(!(ce == 0) || decide (x.nd≤s.depot)) by rw [hce];rfl)
   clear hs hI hce c0 c1 c2 c3 c4 c5
   rw [hA]
   clear hA
   go_upto_region 6 with fail
   obtain ⟨z1,hz1⟩:∃ z,z=(ce != 0):=⟨_,rfl⟩
   have HZ1:=Lib.hid (show (ce == 0)=!z1 by rw [hz1];simp [bne])
   obtain ⟨z2,hz2⟩:∃ z,z=decide (x.nd≤s.depot):=⟨_,rfl⟩
   have HZ2:=Lib.hid hz2.symm
   have f1:=hz1.symm
   have f2:=hz2.symm
   clear hz1 hz2
   have HBB:=Lib.hid (show K.badS x.nd s=(z1 || z2) by rw [HBD.out,HZ1.out,HZ2.out,Bool.not_not])
   have h5:z1=true∨(z1=false∧z2=true)∨(z1=false∧z2=false):=by cases z1 <;> cases z2 <;> simp
   rcases h5 with rfl | ⟨rfl,rfl⟩ | ⟨rfl,rfl⟩
   all_goals
    refine reg_beh (by kernel_rfl) (by kernel_rfl) ?_
    repeat (go_big_quiet_step ((go_at_call 154;exact Beh.calls (CK _))))
    refine wpQuiet_nil ?_
    rintro w4 ⟨⟨w4,b4⟩,rfl⟩
    have hb4:=bel hbr b4
    have hb42:=bel hb2 hb4
    clear CK q0 e0 e1 e2 e3 e4 e5 f1 f2
    go_wp2_with fail
    first
     | (go_ret
        exact ⟨by rw [HR2.out,hr.out,HS.out,HBB.out];simp,hb42⟩)
     | (go_roundw
        case rel=>exact ⟨k + 1,by go_num,hlt,by show _=_;rw [hr.out,HS.out,HBB.out];rfl,hb4⟩
        case measure=>simp [intOf];omega)
  ·have HD:=Lib.hid (show x.ss.drop k=[] from List.drop_eq_nil_of_le (by rw [←HSN.out];omega))
   have hd:decide ((k:Int) < (x.sn:Int))=false:=by simp;omega
   have hd2:decide (k < x.sn)=false:=by simp;omega
   have HR3:=Lib.hid (show R=!x.r.any (K.badQ x.nd) by rw [HR2.out,hr.out,HD.out];rfl)
   have hN3:=hN.below hbr
   clear hr HD HR2 hlt hk
   go_wp2_with fail
   clear hd hd2
   go_loopw [8] (fun v wq=>∃ k:Nat,v=.int .i64 k∧k≤x.m∧Hid (x.r.any (K.badQ x.nd)=(x.r.drop k).any (K.badQ x.nd))∧Below wr.heap.size wr wq) (fun v _=>x.m - (intOf v).toNat)
   case atStart=>exact ⟨0,rfl,Nat.zero_le _,(by show _=_;rw [List.drop_zero]),Below.refl _ _⟩
   case round =>
    obtain ⟨k,rfl,hk,hr,hbq⟩:=hrel
    have hbw2:=bel hbw hbq
    by_cases hlt:k < x.m
    ·obtain ⟨ad,q,hA,hq,hI,c0,c1,c2,c3,c4,c5,c6⟩:=(hx.reqs.below hbw2).at_ hlt
     have HS:=Lib.hid (drop_any (p:=K.badQ x.nd) hq)
     have hqn:=hx.b5 q (List.mem_of_getElem? hq)
     have k0:(0:Int)≤(k:Int):=by omega
     have k1:(k:Int) < (x.m:Int):=by omega
     obtain ⟨ce,hce⟩:∃ ce,ce=T.right q:=⟨_,rfl⟩
     have CK:∀ i:Beh wr,Calls Tryz.prog 152 #[.agg #[.int .i64 q.node,.int .i64 q.room,.int .i64 q.kilos,.int .i64 q.service,.int .i64 q.frm,.int .i64 q.by_,.slice q.A q.n q.c]] i.val fun e w'=>e=.returned (.bool ce)∧Below i.val.heap.size i.val w':=fun i=>by rw [hce];exact rright29_any q i.val (hI.below i.property) hqn
     have q0:=Beh.cell (hN3.below hbq).c0
     have e0:=Beh.cell c0
     have e1:=Beh.cell c1
     have e2:=Beh.cell c2
     have e3:=Beh.cell c3
     have e4:=Beh.cell c4
     have e5:=Beh.cell c5
     have e6:=Beh.cell c6
     have HBD:=Lib.hid (show K.badQ x.nd q=(!ce || decide (x.nd≤q.node)) by rw [hce];rfl)
     clear hq hI hce c0 c1 c2 c3 c4 c5 c6
     rw [hA]
     clear hA
     go_upto_region 11 with fail
     obtain ⟨z2,hz2⟩:∃ z,z=decide (x.nd≤q.node):=⟨_,rfl⟩
     have HZ2:=Lib.hid hz2.symm
     have f2:=hz2.symm
     clear hz2
     have HBB:=Lib.hid (show K.badQ x.nd q=(!ce || z2) by rw [HBD.out,HZ2.out])
     have h5:ce=false∨(ce=true∧z2=true)∨(ce=true∧z2=false):=by cases ce <;> cases z2 <;> simp
     rcases h5 with rfl | ⟨rfl,rfl⟩ | ⟨rfl,rfl⟩
     all_goals
      refine reg_beh (by kernel_rfl) (by kernel_rfl) ?_
      repeat (go_big_quiet_step ((go_at_call 152;exact Beh.calls (CK _))))
      refine wpQuiet_nil ?_
      rintro w4 ⟨⟨w4,b4⟩,rfl⟩
      have hb4:=bel hbq b4
      have hb42:=bel hbw hb4
      clear CK q0 e0 e1 e2 e3 e4 e5 e6 f2
      go_wp2_with fail
      first
       | (go_ret
          exact ⟨by rw [HR3.out,hr.out,HS.out,HBB.out];rfl,hb42⟩)
       | (go_roundw
          case rel=>exact ⟨k + 1,by go_num,hlt,by show _=_;rw [hr.out,HS.out,HBB.out];rfl,hb4⟩
          case measure=>simp [intOf];omega)
    ·have HD:=Lib.hid (show x.r.drop k=[] from List.drop_eq_nil_of_le (by rw [←HRN.out];omega))
     have hd:decide ((k:Int) < (x.m:Int))=false:=by simp;omega
     have hd2:decide (k < x.m)=false:=by simp;omega
     go_wp2_with fail
     go_ret
     exact ⟨by rw [HR3.out,hr.out,HD.out];rfl,hbw2⟩
set_option maxRecDepth 100000 in
set_option maxHeartbeats 4000000 in
theorem rstart69_any (x:Cs) (w:World) (hx:CsAt w x) :
  Calls Tryz.prog 69 #[.agg #[.int .i64 x.nd,.slice x.A x.n x.c],.slice x.SA x.sn x.sc,.slice x.B x.m x.d] w fun e w'=>e=.returned (.int .i64 (K.pcheck x.nd x.l x.ss x.r))∧Below w.heap.size w w':=by
 obtain ⟨P,hP⟩:∃ P,P=K.pcheck x.nd x.l x.ss x.r:=⟨_,rfl⟩
 rw [←hP]
 have HP:=Lib.hid (hP.trans (K.pcheck_right _ _ _ _))
 clear hP
 obtain ⟨w1,hw1⟩:∃ w1:World,w1=w.alloc (.cells #[.int .i64 x.nd,.slice x.A x.n x.c] 24):=⟨_,rfl⟩
 have b0:Below w.heap.size w w1:=by rw [hw1];exact (Below.refl _ _).alloc (Nat.le_refl _) _
 obtain ⟨G0,hG0⟩:∃ G0,G0=w.heap.size:=⟨_,rfl⟩
 have hN:Net w1 G0 x.nd x.A x.n x.c:=by rw [hw1,hG0];exact Net.new w x.nd x.A x.n x.c
 have p0:=hN.c0
 have p1:=hN.c1
 have hmb:=hx.b4
 have HRN:=Lib.hid hx.reqs.1
 go_enter Tryz.func69,Tryz.ntmps69
 go_wp2_with fail
 rw [←hw1,←hG0]
 clear hw1 hG0
 refine (rright111_any x _ (hx.below b0)).mono ?_
 obtain ⟨z,hz⟩:∃ z,z=K.right32 x.nd x.l x.ss x.r:=⟨_,rfl⟩
 rw [←hz]
 rw [←hz] at HP
 clear hz
 rintro e w2 ⟨rfl,b2⟩
 have hb2:=bel b0 b2
 clear p0 p1
 cases z
 ·have HX:=Lib.hid (show P=1 from HP.out)
  go_wp2_with fail
  go_ret
  exact ⟨by rw [HX.out];rfl,hb2⟩
 by_cases h6:6 < x.m
 ·have hd:decide ((6:Int) < (x.m:Int))=true:=by simp;omega
  have hd2:decide (6 < x.m)=true:=by simp;omega
  have HX:=Lib.hid (show P=6 by rw [HP.out,if_pos rfl,if_pos (by rw [←HRN.out];exact h6)])
  clear h6
  go_wp2_with fail
  go_ret
  exact ⟨by rw [HX.out];rfl,hb2⟩
 ·have hd:decide ((6:Int) < (x.m:Int))=false:=by simp;omega
  have hd2:decide (6 < x.m)=false:=by simp;omega
  have HX:=Lib.hid (show P=0 by rw [HP.out,if_pos rfl,if_neg (by rw [←HRN.out];exact h6)])
  clear h6
  go_wp2_with fail
  go_ret
  exact ⟨by rw [HX.out];rfl,hb2⟩
set_option maxRecDepth 100000 in
set_option maxHeartbeats 16000000 in
theorem rrest46_any (x:Cs) (LA:Option Addr) (ln lc:Nat) (lost:List Int) (w:World) (hx:CsAt w x) (hL:Ints w LA ln lost) (hln:ln≤1000000000) (hsn:x.sn≤1000000) :
  Calls Tryz.prog 46 #[.agg #[.int .i64 x.nd,.slice x.A x.n x.c,.slice x.SA x.sn x.sc,.slice x.B x.m x.d],.slice LA ln lc] w fun e w'=>RetRest w w' (K.rest34 x.nd x.l x.ss x.r lost) (K.restE x.nd x.l x.ss x.r lost) e:=by
 obtain ⟨w1,hw1⟩:∃ w1:World,w1=w.alloc (.cells #[.int .i64 x.nd,.slice x.A x.n x.c,.slice x.SA x.sn x.sc,.slice x.B x.m x.d] 44):=⟨_,rfl⟩
 obtain ⟨g,hg⟩:∃ g,g=w.heap.size:=⟨_,rfl⟩
 have b1:Below w.heap.size w w1:=by rw [hw1];exact (Below.refl _ _).alloc (Nat.le_refl _) _
 have hN1:BkBlk w1 g x:=by rw [hw1,hg];exact BkBlk.new _ _
 have p2:=blk_cell hN1 2 _ rfl
 have HSN:=Lib.hid hx.shifts.1.1
 have HRN:=Lib.hid hx.reqs.1
 obtain ⟨ER,hER⟩:∃ ER,ER=K.restE x.nd x.l x.ss x.r lost:=⟨_,rfl⟩
 obtain ⟨RR,hRR⟩:∃ RR,RR=K.rest34 x.nd x.l x.ss x.r lost:=⟨_,rfl⟩
 rw [←hER,←hRR]
 have HER:=Lib.hid (show ER=if K.asc33 x.sn (-1) lost=true then (if K.right32 x.nd x.l x.ss x.r=true then (if 6 < x.m then 6 else 0) else 1) else 1 by
  rw [hER,HSN.out,HRN.out,←K.pcheck_right];rfl)
 have HRR:=Lib.hid (show RR=if ER=0 then K.restGo lost 0 x.ss else [] by rw [hRR,hER];rfl)
 have hmb:=hx.b4
 clear hER hRR
 go_enter Tryz.func46,Tryz.ntmps46
 go_upto_region 1 with fail
 rw [←hw1,←hg]
 clear hw1 hg
 have CR:=rlist110_any LA ln lc lost x.sn w1 (hL.below b1) hln (by omega)
 obtain ⟨z,hz⟩:∃ z,z=K.asc33 x.sn (-1) lost:=⟨_,rfl⟩
 rw [←hz] at CR HER
 clear hz
 go_wp2_with fail
 refine CR.mono ?_
 rintro e w2 ⟨rfl,b2⟩
 have hN2:=hN1.below b2
 have hb2:=bel b1 b2
 clear CR p2 b1 b2 hN1
 cases z
 ·have HX:=Lib.hid (show ER=1 from HER.out)
  have HY:=Lib.hid (show RR=[] by rw [HRR.out,HX.out];rfl)
  go_wp2_with fail
  go_ret2
  rw [HX.out,HY.out]
  exact retRest_nil hb2
 have p0:=blk_cell hN2 0 _ rfl
 have p1:=blk_cell hN2 1 _ rfl
 have p2:=blk_cell hN2 2 _ rfl
 have p3:=blk_cell hN2 3 _ rfl
 have CC:=rright111_any x w2 (hx.below hb2)
 obtain ⟨z,hz⟩:∃ z,z=K.right32 x.nd x.l x.ss x.r:=⟨_,rfl⟩
 rw [←hz] at CC HER
 clear hz
 go_wp2_with fail
 refine CC.mono ?_
 rintro e w3 ⟨rfl,b3⟩
 have hN3:=hN2.below b3
 have hb3:=bel hb2 b3
 clear CC p0 p1 p2 p3 hN2 hb2 b3
 cases z
 ·have HX:=Lib.hid (show ER=1 from HER.out)
  have HY:=Lib.hid (show RR=[] by rw [HRR.out,HX.out];rfl)
  go_wp2_with fail
  go_ret2
  rw [HX.out,HY.out]
  exact retRest_nil hb3
 have p3:=blk_cell hN3 3 _ rfl
 by_cases h6:6 < x.m
 ·have d1:decide ((6:Int) < (x.m:Int))=true:=by simp;omega
  have d2:decide (6 < x.m)=true:=by simp;omega
  have HX:=Lib.hid (show ER=6 by have h9:=HER.out;simpa [h6] using h9)
  have HY:=Lib.hid (show RR=[] by rw [HRR.out,HX.out];rfl)
  clear h6
  go_wp2_with fail
  go_ret2
  rw [HX.out,HY.out]
  exact retRest_nil hb3
 have d1:decide ((6:Int) < (x.m:Int))=false:=by simp;omega
 have d2:decide (6 < x.m)=false:=by simp;omega
 have HX:=Lib.hid (show ER=0 by have h9:=HER.out;simpa [h6] using h9)
 have HY:=Lib.hid (show RR=K.restGo lost 0 x.ss by rw [HRR.out,if_pos HX.out])
 clear h6
 go_wp2_with fail
 clear d1 d2 p3
 go_loopw [6,7] (fun v6 v7 wr=>∃ (k:Nat) (L:List S),v7=.int .i64 k∧k≤x.sn∧wr.ownsRow w3.heap.size 63 6 v6 L.length (L.flatMap S.cells)∧L.length≤k∧Hid (L=K.restGo lost 0 (x.ss.take k))∧Below w3.heap.size w3 wr) (fun _ v7 _=>x.sn - (intOf v7).toNat)
 case atStart=>exact ⟨0,[],rfl,Nat.zero_le _,World.ownsRow_nil _ _ _ _,Nat.zero_le _,rfl,Below.refl _ _⟩
 case round =>
  obtain ⟨k,L,rfl,hk,hown,hlk,hbare,hbr⟩:=hrel
  have hbw:=bel hb3 hbr
  have hNr:=hN3.below hbr
  have p2:=blk_cell hNr 2 _ rfl
  by_cases hlt:k < x.sn
  ·obtain ⟨ad,s,hA,hs,hI,c0,c1,c2,c3,c4,c5⟩:=(hx.shifts.below hbw).at_ hlt
   have HTK:=Lib.hid (K.restGo_take (lost:=lost) hs)
   have HSS:=Lib.hid (show ∀ s',x.ss[k]? = some s'→s'=s from fun s' h=>by rw [hs] at h;injection h with h;exact h.symm)
   have k0:(0:Int)≤(k:Int):=by omega
   have k1:(k:Int) < (x.sn:Int):=by omega
   have hkt:k + 1≤x.sn:=hlt
   have CK:=has55_any LA ln lc lost k wr (hL.below hbw) hln
   obtain ⟨z,hz⟩:∃ z,z=lost.any (· == (k:Int)):=⟨_,rfl⟩
   rw [←hz] at CK HTK
   have HA:=Lib.hid hA
   clear hz hs hI c0 c1 c2 c3 c4 c5 hA
   go_wp2_with fail
   refine CK.mono ?_
   rintro e w5 ⟨rfl,b5⟩
   have hb5:=bel hbr b5
   have hown5:=own_below hown b5
   cases z
   rotate_left
   ·have HB:=Lib.hid (show L=K.restGo lost 0 (x.ss.take (k + 1)) by rw [HTK.out,if_pos rfl,List.append_nil];exact hbare.out)
    clear CK hown p2
    go_wp2_with fail
    go_roundw
    case rel=>(go_light;exact ⟨k + 1,L,by go_num,hkt,hown5,by omega,HB.out,hb5⟩)
    case measure=>(go_light;simp [intOf];omega)
   ·obtain ⟨ad',s',hA',hs',hI',c0,c1,c2,c3,c4,c5⟩:=(hx.shifts.below (bel hb3 hb5)).at_ hlt
    have p2:=blk_cell (hNr.below b5) 2 _ rfl
    obtain ⟨w8,hw8⟩:∃ w8:World,w8=w5.alloc (.cells #[.int .i64 s'.day,.int .i64 s'.depot,.int .i64 s'.start,.int .i64 s'.end_,.int .i64 s'.tare,.slice s'.A s'.n s'.c] 63):=⟨_,rfl⟩
    obtain ⟨g8,hg8⟩:∃ g,g=w5.heap.size:=⟨_,rfl⟩
    have b8:Below w5.heap.size w5 w8:=by rw [hw8];exact (Below.refl _ _).alloc (Nat.le_refl _) _
    have hL8:w8.heap[g8]? = some (.cells #[.int .i64 s'.day,.int .i64 s'.depot,.int .i64 s'.start,.int .i64 s'.end_,.int .i64 s'.tare,.slice s'.A s'.n s'.c] 63 (0,0)):=by rw [hw8,hg8];exact heap_alloc_new _ _
    have hown8:=own_below hown5 b8
    obtain ⟨i0,hi,hz0,hz1,hz2⟩:=info_parts clone150_info
    have hz8:w3.heap.size≤w8.heap.size:=Nat.le_trans hb5.size b8.size
    have hb8:=bel hb5 b8
    have hss:s'=s:=HSS.out s' hs'
    have HB:=Lib.hid (show L ++ [s'] = K.restGo lost 0 (x.ss.take (k + 1)) by rw [HTK.out,if_neg (by decide),hbare.out,hss])
    rw [hA'] at p2
    clear hs' hI' hown CK hown5 hA' hss
    go_wp2_with (first
     | (at_builtin;rw [←hw8,←hg8];refine wp_append_rd rfl _ _ 25 rfl w3.heap.size 63 i0 (.agg #[.int .i64 0,.int .i64 0,.int .i64 0,.int .i64 0,.int .i64 0,.slice none 0 0]) 6 64 Tryz.underlying25 hi hz0 hz1 hz2 rfl (by decide) _ L.length (L.flatMap S.cells) rfl hown8 (some ⟨g8,0,none⟩) 1 1 s'.cells rfl (Rd.of_block hL8 6 1 rfl) (shift_one _) (by simp only [maxLen];omega) (by omega) hz8 ?_;intro v9 w9 hown9 hgr9 _)
     | fail)
    have hb9:Below w3.heap.size w3 w9:=below_own2 hb8 hgr9 (fun g e=>(hown8.lt g e).1)
    have hown9':w9.ownsRow w3.heap.size 63 6 v9 (L ++ [s']).length ((L ++ [s']).flatMap S.cells):=by
     rw [List.length_append,List.flatMap_append,List.flatMap_singleton]
     exact hown9
    have HLN:=Lib.hid (show (L ++ [s']).length≤k + 1 by rw [List.length_append,List.length_singleton];omega)
    clear hown9 hgr9 hown8 hw8 hg8 c0 c1 c2 c3 c4 c5
    go_roundw
    case rel=>(go_light;exact ⟨k + 1,_,by go_num,hkt,hown9',HLN.out,HB.out,hb9⟩)
    case measure=>(go_light;simp [intOf];omega)
  ·have hd:decide ((k:Int) < (x.sn:Int))=false:=by simp;omega
   have hd2:decide (k < x.sn)=false:=by simp;omega
   have HB:=Lib.hid (show L=RR by rw [HY.out,hbare.out,List.take_of_length_le (by rw [←HSN.out];omega)])
   have hsub:∀ s ∈ L,s ∈ x.ss:=fun s hs=>(K.restGo_sub x.ss 0).subset (by rw [←HY.out,←HB.out];exact hs)
   obtain ⟨A9,c9,rfl,hR9,-⟩:=own_form hown
   go_wp2_with fail
   go_ret2
   rw [HX.out]
   exact ⟨⟨A9,L.length,c9,L,rfl,⟨⟨rfl,hR9⟩,fun s hs=>(hx.shifts.2 s (hsub s hs)).below hbw⟩,by rw [HB.out]⟩,hbw⟩
theorem lit_rd {w:World} {g:Nat} {i:Int} (h:w.heap[g]? = some (.cells #[.int .i64 i] 3 (0,0))):Rd w 1 (some ⟨g,0,none⟩) 1 [.int .i64 i] :=
 ⟨rfl,fun _=>⟨_,rfl,fun j u hu=>by
  cases j with
  | zero =>
   have hu:some (Value.int .i64 i)=some u:=hu
   injection hu with hu
   subst hu
   exact blk_cell h 0 _ rfl
  | succ j=>simp at hu⟩⟩
def Leg (x:C) (v:List Int) (i a t:Int) (w w':World) (e:Ending):Prop:=e=.returned (.tuple #[.int .i64 (K.leg x.nd x.l x.s x.r v i a t).1,.int .i64 (K.leg x.nd x.l x.s x.r v i a t).2])∧Below w.heap.size w w'
theorem leg_mk' {x:C} {v:List Int} {i a t b er:Int} {w w':World} (h:K.leg x.nd x.l x.s x.r v i a t=(b,er)) (hb:Below w.heap.size w w'):Leg x v i a t w w' (.returned (.tuple #[.int .i64 b,.int .i64 er])):=⟨by rw [h],hb⟩
set_option maxRecDepth 100000 in
set_option maxHeartbeats 16000000 in
theorem leg_any (x:C) (V:Option Addr) (vn vc:Nat) (v:List Int) (i:Nat) (q:Q) (a t:Int) (w:World) (hx:At w x) (hV:Ints w V vn v) (hvn:vn≤100000) (hne:K.netErr x.nd x.l=0) (ha:0≤a∧a < x.nd) (hq:x.r[i]? = some q) (hno:0≤q.node∧q.node < x.nd) (ht:0≤t∧t≤1000000)
  (hse:0≤q.service∧q.service≤1000000) :
  Calls Tryz.prog 180 #[.agg #[.int .i64 x.nd,.slice x.A x.n x.c],.agg #[.int .i64 x.s.day,.int .i64 x.s.depot,.int .i64 x.s.start,.int .i64 x.s.end_,.int .i64 x.s.tare,.slice x.s.A x.s.n x.s.c],.slice x.B x.m x.d,.slice V vn vc,.int .i64 i,.int .i64 a,.int .i64 t] w fun e w'=>Leg x v i a t w w' e:=by
 have him:i < x.m:=by rw [hx.reqs.1];exact (List.getElem?_eq_some_iff.1 hq).1
 obtain ⟨w1,hw1⟩:∃ w1:World,w1=w.alloc (.cells #[.int .i64 x.nd,.slice x.A x.n x.c] 24):=⟨_,rfl⟩
 obtain ⟨w2,hw2⟩:∃ w2:World,w2=w1.alloc (.cells #[.int .i64 x.s.day,.int .i64 x.s.depot,.int .i64 x.s.start,.int .i64 x.s.end_,.int .i64 x.s.tare,.slice x.s.A x.s.n x.s.c] 63):=⟨_,rfl⟩
 obtain ⟨w3,hw3⟩:∃ w3:World,w3=w2.alloc (.cells #[.int .i64 q.node,.int .i64 q.room,.int .i64 q.kilos,.int .i64 q.service,.int .i64 q.frm,.int .i64 q.by_,.slice q.A q.n q.c] 47):=⟨_,rfl⟩
 have z1:w1.heap.size=w.heap.size + 1:=by rw [hw1];exact World.size_alloc _ _
 have z2:w2.heap.size=w.heap.size + 1 + 1:=by rw [hw2,World.size_alloc,z1]
 have b01:Below w.heap.size w w1:=by rw [hw1];exact (Below.refl _ _).alloc (Nat.le_refl _) _
 have b12:Below w1.heap.size w1 w2:=by rw [hw2];exact (Below.refl _ _).alloc (Nat.le_refl _) _
 have b23:Below w2.heap.size w2 w3:=by rw [hw3];exact (Below.refl _ _).alloc (Nat.le_refl _) _
 have hP:Net w3 w.heap.size x.nd x.A x.n x.c:=by
  have h1:Net w1 w.heap.size x.nd x.A x.n x.c:=by rw [hw1];exact Net.new _ _ _ _ _
  exact (h1.below b12).below b23
 have hS:Shf w3 (w.heap.size + 1) x.s:=by
  have h1:Shf w2 (w.heap.size + 1) x.s:=by rw [←z1,hw2];exact Shf.new _ _
  exact h1.below b23
 have hQ:QBlk w3 (w.heap.size + 1 + 1) q:=by rw [←z2,hw3];exact QBlk.new w2 q
 have hb:=bel (bel b01 b12) b23
 obtain ⟨ad,q',hB,hgq,hwq,e0,e1,e2,e3,e4,e5,e6⟩:=(hx.reqs.below (bel b01 b12)).at_ him
 rw [hq] at hgq
 injection hgq with hgq
 subst hgq
 have HRQ:=Lib.hid (K.req_get hq)
 have hqn:=hx.b4 q (List.mem_of_getElem? hq)
 have i0:(0:Int)≤(i:Int):=by omega
 have i1:(i:Int) < (x.m:Int):=by omega
 have HB:=Lib.hid hB
 clear hq
 rw [hw2,hw1] at e0 e1 e2 e3 e4 e5 e6
 rw [hB]
 cases d1:decide (x.s.day < q.frm)
 rotate_left
 ·have HX:=Lib.hid (show K.leg x.nd x.l x.s x.r v i a t=(0,17) by unfold K.leg;rw [HRQ.out,if_pos (.inl (by simpa using d1))])
  clear hB
  go_enter Tryz.func180,Tryz.ntmps180
  go_wp2_with fail
  go_ret2
  rw [←hw1,←hw2,←hw3]
  exact leg_mk' HX.out hb
 cases d2:decide (q.by_ < x.s.day)
 rotate_left
 ·have HX:=Lib.hid (show K.leg x.nd x.l x.s x.r v i a t=(0,17) by unfold K.leg;rw [HRQ.out,if_pos (.inr (by simpa using d2))])
  clear hB
  go_enter Tryz.func180,Tryz.ntmps180
  go_wp2_with fail
  go_ret2
  rw [←hw1,←hw2,←hw3]
  exact leg_mk' HX.out hb
 have HD:=Lib.hid (show ¬ (x.s.day < (K.req x.r i).frm∨(K.req x.r i).by_ < x.s.day) by rw [HRQ.out];simp at d1 d2;omega)
 clear hB
 go_enter Tryz.func180,Tryz.ntmps180
 go_wp2_with fail
 rw [←hw1,←hw2,←hw3]
 clear e0 e1 e2 e3 e4 e5 e6 i0 i1 z1 z2 b01 b12 hw1 hw2 hw3
 have S0:=LAt.mk' hP hS (Below.refl w3.heap.size w3)
 have hAx:∀ w',LAt w3 w.heap.size x w'→At w' x:=fun w' h=>hx.below (bel hb h.1)
 have hVx:∀ w',LAt w3 w.heap.size x w'→Ints w' V vn v:=fun w' h=>hV.below (bel hb h.1)
 have hSn:∀ w' w'',LAt w3 w.heap.size x w'→Below w'.heap.size w' w''→LAt w3 w.heap.size x w'':=fun w' w'' h hb'=>LAt.mk' hP hS (bel h.1 hb')
 have hSd:∀ w',LAt w3 w.heap.size x w'→LAt w3 w.heap.size x w'.drew:=fun w' h=>LAt.mk' hP hS h.1.drew
 have hSa:∀ w' o',LAt w3 w.heap.size x w'→LAt w3 w.heap.size x (w'.alloc o'):=fun w' o' h=>LAt.mk' hP hS (bel h.1 ((Below.refl _ _).alloc (Nat.le_refl _) _))
 have hSg:∀ (w' w'':World) (v:Value),LAt w3 w.heap.size x w'→w'.grownBy w'' v.ownBlock→(∀ g,v.ownBlock=some g→w3.heap.size≤g)→LAt w3 w.heap.size x w'':=fun w' w'' v h hg hv=>LAt.mk' hP hS (h.1.grown hg (Nat.le_trans h.1.size (Nat.le_refl _)) hv)
 obtain ⟨i0,hi,hz0,hz1,hz2⟩:=info_parts Tryz.info3
 have HVL:=Lib.hid hV.1
 clear d1 d2
 obtain ⟨c2,c3,c4⟩:x.s.n≤1000000000∧x.m≤1000000000∧∀ q ∈ x.r,q.n≤1000000000:=⟨hx.b2,hx.b3,hx.b4⟩
 rw [←HB.out]
 go_cut [45] from 36 to 45 (fun v45 wc=>v45=.bool (!(T.fits x.s x.r (v ++ [(i:Int)])))∧Below w3.heap.size w3 wc)
 case first =>
  go_region_held3 (fun w'=>Below w3.heap.size w3 w'∧w'.cell? ⟨w.heap.size,0,none⟩=some (.int .i64 x.nd)∧w'.cell? ⟨w.heap.size,1,none⟩=some (.slice x.A x.n x.c)∧w'.cell? ⟨w.heap.size + 1,0,none⟩=some (.int .i64 x.s.day)∧w'.cell? ⟨w.heap.size + 1,1,none⟩=some (.int .i64 x.s.depot)∧w'.cell? ⟨w.heap.size + 1,2,none⟩=some (.int .i64 x.s.start) ∧
  w'.cell? ⟨w.heap.size + 1,3,none⟩=some (.int .i64 x.s.end_)∧w'.cell? ⟨w.heap.size + 1,4,none⟩=some (.int .i64 x.s.tare)∧w'.cell? ⟨w.heap.size + 1,5,none⟩=some (.slice x.s.A x.s.n x.s.c))
   (first | assumption | exact S0 | exact hSd _ (by assumption) | exact hSa _ _ (by assumption) | exact hSa _ _ (hSd _ S0))
   (first
    | (go_at_call 182;refine (rfits29_any x.s x.B x.m x.d x.r _ _ _ (v ++ [(i:Int)]) _ (hAx _ ?_).rooms c2 (hAx _ ?_).reqs c3 c4 hJ (by omega)).mono ?_;assumption;assumption;rintro e w9 ⟨rfl,hbn⟩;have hS9:=hSn _ _ (by assumption) hbn)
    | ((refine step_append_rd rfl (.tmp 38) (.tmp 39) 48 rfl w3.heap.size 3 i0 (.int .i64 0) 1 8 Tryz.underlying48 hi hz0 hz1 hz2 rfl (by decide) (.slice (some ⟨w3.heap.size,0,none⟩) 0 0) 0 [] rfl ?_ V vn vc (intCells v) rfl ?_ (intCells_one _) (by simp only [maxLen];omega) (by omega) ?_ ?_;(first | exact own_lit (heap_alloc_new w3 (.cells #[] 3)) (Nat.le_refl _) | exact own_lit (blk_alloc (heap_alloc_new w3 (.cells #[] 3)) _) (Nat.le_refl _));(refine (hVx _ (show LAt w3 w.heap.size x _ from ?_)).2;assumption);(refine (And.left (b:=_) (show LAt w3 w.heap.size x _ from ?_)).size;assumption));intro v1 w4 hown1 hgrow1 hat1;have hS1:=hSg _ _ _ (by assumption) hgrow1 (lit_block (by omega));rw [Nat.zero_add,List.nil_append] at hown1;
        (first | (have hT1:=grow_blk hgrow1 (g:=w3.heap.size + 1) (o:=(.cells #[.int .i64 (i:Int)] 3)) (heap_alloc_at (w3.alloc (.cells #[] 3)) (.cells #[.int .i64 (i:Int)] 3) (w3.heap.size + 1) (World.size_alloc _ _).symm) (lit_ne (by omega))) | skip))
    | ((refine step_append_rd rfl (.tmp 38) (.tmp 39) 48 rfl w3.heap.size 3 i0 (.int .i64 0) 1 8 Tryz.underlying48 hi hz0 hz1 hz2 rfl (by decide) (.slice (some ⟨w3.heap.size + 1,0,none⟩) 0 0) 0 [] rfl ?_ V vn vc (intCells v) rfl ?_ (intCells_one _) (by simp only [maxLen];omega) (by omega) ?_ ?_;(exact own_lit (heap_alloc_at (w3.alloc (.cells #[.int .i64 (i:Int)] 3)) (.cells #[] 3) _ (World.size_alloc _ _).symm) (by omega));(refine (hVx _ (show LAt w3 w.heap.size x _ from ?_)).2;assumption);(refine (And.left (b:=_) (show LAt w3 w.heap.size x _ from ?_)).size;assumption));intro v1 w4 hown1 hgrow1 hat1;have hS1:=hSg _ _ _ (by assumption) hgrow1 (lit_block (by omega));rw [Nat.zero_add,List.nil_append] at hown1;
        (first | (have hT1:=grow_blk hgrow1 (g:=w3.heap.size) (o:=(.cells #[.int .i64 (i:Int)] 3)) (blk_alloc (heap_alloc_new w3 (.cells #[.int .i64 (i:Int)] 3)) (.cells #[] 3)) (lit_ne (by omega))) | skip))
    | (refine step_append_rd rfl (.tmp 40) (.tmp 42) 48 rfl w3.heap.size 3 i0 (.int .i64 0) 1 8 Tryz.underlying48 hi hz0 hz1 hz2 rfl (by decide) v1 vn (intCells v) rfl ?_ _ 1 1 [.int .i64 (i:Int)] rfl ?_ (intCells_one [(i:Int)]) (by simp only [maxLen];omega) (by omega) ?_ ?_;(first | exact hown1 | exact World.ownsRow.alloc hown1 _);(first | exact lit_rd hT1 | exact lit_rd (heap_alloc_new _ (.cells #[.int .i64 (i:Int)] 3)));(refine (And.left (b:=_) (show LAt w3 w.heap.size x _ from ?_)).size;assumption);intro v2 w5 hown2 hgrow2 hat2;have hS2:=hSg _ _ _ (by assumption) hgrow2 (fun g e=>(hown1.lt g e).1);
        obtain ⟨A9,c9,rfl,hRd9,-⟩:=own_form hown2;have hJ:Ints _ A9 (vn + 1) (v ++ [(i:Int)]):=⟨by rw [List.length_append,←HVL.out];rfl,by rw [intCells_app];exact hRd9⟩))
  all_goals go_wp2_with fail
  all_goals go_meet
  all_goals exact ⟨rfl,hS9.1⟩
 case rest =>
  obtain ⟨rfl,hbc⟩:=hcut
  have hb:=bel hb hbc
  have hP:=hP.below hbc
  have hS:=hS.below hbc
  have hQ:=hQ.below hbc
  have hwq:=hwq.below (bel b23 hbc)
  clear S0 hAx hVx hSn hSd hSa hSg hi hz0 hz1 hz2 hbc b23
  cases hf:T.fits x.s x.r (v ++ [(i:Int)])
  ·have HX:=Lib.hid (show K.leg x.nd x.l x.s x.r v i a t=(0,20) by unfold K.leg;rw [if_neg HD.out,if_pos hf])
   clear hf
   go_wp2_with fail
   go_ret2
   exact leg_mk' HX.out hb
  have HF:=Lib.hid (show ¬ (T.fits x.s x.r (v ++ [(i:Int)])=false) by rw [hf];simp)
  clear hf
  obtain ⟨qn,hqn0⟩:∃ qn:Nat,q.node=(qn:Int):=⟨q.node.toNat,by omega⟩
  obtain ⟨s0,s1,s2,s3,s4,s5⟩:=hS.cells
  obtain ⟨q0,q1,q2,q3,q4,q5,q6⟩:=hQ.cells
  rw [hqn0] at q0
  have g0:=Beh.cell hP.c0
  have g1:=Beh.cell hP.c1
  have f0:=Beh.cell s0
  have f1:=Beh.cell s1
  have f2:=Beh.cell s2
  have f3:=Beh.cell s3
  have f4:=Beh.cell s4
  have f5:=Beh.cell s5
  have k0:=Beh.cell q0
  have hA4:=hx.below hb
  have hV4:=hV.below hb
  obtain ⟨wt,hwt⟩:∃ wt,wt=T.weight x.s x.r v:=⟨_,rfl⟩
  obtain ⟨y,hy⟩:∃ y,y=K.way x.nd x.l a wt qn:=⟨_,rfl⟩
  have CW:=fun j:Beh wc=>rweight_any x.s x.B x.m x.d x.r V vn vc v j.val ((hA4.below j.property).rooms) c2 ((hA4.below j.property).reqs) c3 c4 (hV4.below j.property) (by omega)
  have CY:=fun j:Beh wc=>rway_any x.nd x.A x.n x.c x.l a qn wt j.val ((hA4.below j.property).net) hx.b1 hne ha (by omega)
  simp only [←hwt] at CW
  simp only [←hy] at CY
  have hyb:=K.way_bd x.nd x.l a wt q.node
  rw [hqn0,←hy] at hyb
  obtain ⟨hy0,hy1⟩:=hyb
  have HY:=Lib.hid (show K.way x.nd x.l a (T.weight x.s x.r v) (K.req x.r i).node=y by rw [HRQ.out,hqn0,←hwt,hy])
  have HQN:=Lib.hid hqn0
  clear hy hwt hqn0 q0 q1 q2 q3 q4 q5 q6 s0 s1 s2 s3 s4 s5
  go_wp2_with fail
  refine reg_beh (by kernel_rfl) (by kernel_rfl) ?_
  repeat (go_big_quiet_step ((first | (go_at_call 146;exact Beh.calls (CW _)) | (go_at_call 181;exact Beh.calls (CY _)))))
  refine wpQuiet_nil ?_
  rintro w5 ⟨⟨_,b45⟩,rfl⟩
  have hb:=bel hb b45
  have hS:=hS.below b45
  have hQ:=hQ.below b45
  have hwq:=hwq.below b45
  clear b45 CW CY g0 g1 f0 f1 f2 f3 f4 f5 k0 hA4 hV4 hP
  obtain ⟨s0,s1,s2,s3,s4,s5⟩:=hS.cells
  obtain ⟨q0,q1,q2,q3,q4,q5,q6⟩:=hQ.cells
  cases h1:decide (y < 0)
  rotate_left
  ·have HX:=Lib.hid (show K.leg x.nd x.l x.s x.r v i a t=(0,4) by
    have hr:K.reach x.nd x.l x.s x.r v a t (K.req x.r i).node=(0,4):=by unfold K.reach;rw [HY.out,if_pos (by have h1:=of_decide_eq_true h1;omega)]
    unfold K.leg;rw [if_neg HD.out,if_neg HF.out,hr,if_pos (by decide)])
   go_wp2_with fail
   go_ret2
   exact leg_mk' HX.out hb
  have hyp:¬ y < 0:=of_decide_eq_false h1
  have hwrap:IntKind.i64.wrap (t + y)=t + y:=IntWalk.i64_in _ (by omega)
  cases h2:decide (x.s.end_ < t + y)
  rotate_left
  ·have HX:=Lib.hid (show K.leg x.nd x.l x.s x.r v i a t=(0,18) by
    have hr:K.reach x.nd x.l x.s x.r v a t (K.req x.r i).node=(0,18):=by unfold K.reach;rw [HY.out,if_neg (by omega),if_pos (of_decide_eq_true h2)]
    unfold K.leg;rw [if_neg HD.out,if_neg HF.out,hr,if_pos (by decide)])
   go_wp2_with fail
   go_ret2
   exact leg_mk' HX.out hb
  have h2':¬ x.s.end_ < t + y:=of_decide_eq_false h2
  have HR:=Lib.hid (show K.reach x.nd x.l x.s x.r v a t (K.req x.r i).node=(t + y,0) by unfold K.reach;rw [HY.out,if_neg (by omega),if_neg h2'])
  have hy2:0≤y:=by omega
  clear hyp h2'
  go_wp2_with fail
  refine (rfit_any q.A q.n q.c q.l (t + y) q.service _ hwq hqn).mono ?_
  rintro e w7 ⟨rfl,b67⟩
  have hb:=bel hb b67
  have hS:=hS.below b67
  have hQ:=hQ.below b67
  clear q0 q1 q2 q3 q4 q5 q6 s0 s1 s2 s3 s4 s5 h1 h2
  have HFO:=Lib.hid (fun h=>H.fit_ok (l:=q.l) (t:=t + y) (s:=q.service) h)
  obtain ⟨fb,hfb⟩:∃ fb,fb=(H.fit q.l (t + y) q.service).1:=⟨_,rfl⟩
  obtain ⟨ok,hok⟩:∃ ok,ok=(H.fit q.l (t + y) q.service).2:=⟨_,rfl⟩
  rw [←hfb,←hok]
  have HFB:=Lib.hid hfb
  have HOK:=Lib.hid hok
  clear hfb hok
  cases hko:ok
  ·have HX:=Lib.hid (show K.leg x.nd x.l x.s x.r v i a t=(0,19) by unfold K.leg;rw [if_neg HD.out,if_neg HF.out,HR.out,if_neg (by simp),HRQ.out,if_pos (by rw [←HOK.out];exact hko)])
   clear hko
   go_wp2_with fail
   go_ret2
   exact leg_mk' HX.out hb
  have HK1:=Lib.hid (show ¬ ((H.fit q.l (t + y) q.service).2=false) by rw [←HOK.out,hko];simp)
  obtain ⟨-,-,-,hf1,hf2⟩:=HFO.out (by rw [←HOK.out];exact hko)
  rw [←HFB.out] at hf1 hf2
  subst hko
  have hf0:0≤fb:=by omega
  clear HFO
  obtain ⟨q0,q1,q2,q3,q4,q5,q6⟩:=hQ.cells
  obtain ⟨s0,s1,s2,s3,s4,s5⟩:=hS.cells
  have hwrap:IntKind.i64.wrap (fb + q.service)=fb + q.service:=IntWalk.i64_in _ (by omega)
  cases h3:decide (x.s.end_ < fb + q.service)
  rotate_left
  ·have HX:=Lib.hid (show K.leg x.nd x.l x.s x.r v i a t=(0,18) by unfold K.leg;rw [if_neg HD.out,if_neg HF.out,HR.out,if_neg (by simp),HRQ.out,if_neg HK1.out,if_pos (by rw [←HFB.out];exact of_decide_eq_true h3)])
   go_wp2_with fail
   go_ret2
   exact leg_mk' HX.out hb
  have HX:=Lib.hid (show K.leg x.nd x.l x.s x.r v i a t=(fb,0) by unfold K.leg;rw [if_neg HD.out,if_neg HF.out,HR.out,if_neg (by simp),HRQ.out,if_neg HK1.out,if_neg (by rw [←HFB.out];exact of_decide_eq_false h3),←HFB.out])
  go_wp2_with fail
  go_ret2
  exact leg_mk' HX.out hb
structure NRel (x:C) (o:List Int) (wS:World) (S:Value) (k:Nat) (tv:Value) (a t:Int) (ts:List Int) (wr:World):Prop where
 legs:K.legs x.nd x.l x.s x.r [] x.s.depot x.s.start o=⟨ts ++ (K.legs x.nd x.l x.s x.r (o.take k) a t (o.drop k)).times,(K.legs x.nd x.l x.s x.r (o.take k) a t (o.drop k)).a,(K.legs x.nd x.l x.s x.r (o.take k) a t (o.drop k)).t,(K.legs x.nd x.l x.s x.r (o.take k) a t (o.drop k)).e⟩
 len:ts.length=k
 blk:TBlk wr wS.heap.size 0 S tv 0
 own:wr.ownsRow (wS.heap.size + 1) 3 1 tv k (intCells ts)
 a0:0≤a∧a < x.nd
 t0:0≤t∧t≤1000000
 bw:Below wS.heap.size wS wr
theorem NRel.next {x:C} {o:List Int} {wS wr w5 w6:World} {S:Value} {k:Nat} {tv tv':Value} {a t i lb le:Int} {ts:List Int} (h:NRel x o wS S k tv a t ts wr) (hi:o[k]? = some i) (hlb:lb=(K.leg x.nd x.l x.s x.r (o.take k) i a t).1) (hle:le=(K.leg x.nd x.l x.s x.r (o.take k) i a t).2) (h0:le=0)
  (hb:Below wr.heap.size wr w5)
  (hown:w6.ownsRow (wS.heap.size + 1) 3 1 tv' (k + 1) (intCells (ts ++ [lb]))) (hgrow:(w5.alloc (.cells #[.int .i64 lb] 3)).grownBy w6 tv.ownBlock)
  (hno:0≤(K.req x.r i).node∧(K.req x.r i).node < x.nd) (hse:0≤(K.req x.r i).service):NRel x o wS S (k + 1) tv' (K.req x.r i).node (lb + (K.req x.r i).service) (ts ++ [lb]) (w6.setCell ⟨wS.heap.size,2,none⟩ tv'):=by
 subst hlb
 have hl:(K.leg x.nd x.l x.s x.r (o.take k) i a t).2=0:=by rw [←hle];exact h0
 have hlt:∀ g,tv.ownBlock=some g→wS.heap.size + 1≤g∧g < wr.heap.size:=fun g e=>h.own.lt g e
 have hs6:=hgrow.size
 rw [World.size_alloc] at hs6
 have ba:Below w5.heap.size w5 (w5.alloc (.cells #[.int .i64 (K.leg x.nd x.l x.s x.r (o.take k) i a t).1] 3)):=(Below.refl _ _).alloc (Nat.le_refl _) _
 have b6:Below wS.heap.size wS w6:=below_own2 (bel (bel h.bw hb) ba) hgrow (fun g e=>by have:=(hlt g e).1;omega)
 have hT6:TBlk w6 wS.heap.size 0 S tv 0:=grow_blk hgrow ((h.blk.below hb).below ba) (fun e=>by have:=(hlt _ e.symm).1;omega)
 obtain ⟨-,-,-,l4,l5,l6,l7⟩:=K.leg_ok hl
 obtain ⟨-,r2,r3,-⟩:=K.reach_ok l4
 obtain ⟨-,-,-,f1,f2⟩:=H.fit_ok l5
 refine ⟨?_,by rw [List.length_append,h.len];rfl,blk_set hT6 2 _,?_,hno,?_,b6.setCell (Nat.le_refl _) _⟩
 ·rw [h.legs,K.legs_ok hi hl,List.append_assoc];rfl
 ·exact ownsRow_setCell_below hown (Nat.lt_succ_self _) _
 ·have:=h.t0
  rw [l6] at l7 ⊢
  omega
set_option maxRecDepth 100000 in
set_option maxHeartbeats 16000000 in
theorem rrun_any (x:C) (V:Option Addr) (vn vc:Nat) (o:List Int) (w:World) (hx:At w x) (hV:Ints w V vn o) (hvc:vn≤vc) (hvn:vn≤100000) :
  Calls Tryz.prog 131 #[.agg #[.int .i64 x.nd,.slice x.A x.n x.c],.agg #[.int .i64 x.s.day,.int .i64 x.s.depot,.int .i64 x.s.start,.int .i64 x.s.end_,.int .i64 x.s.tare,.slice x.s.A x.s.n x.s.c],.slice x.B x.m x.d,.slice V vn vc] w fun e w'=>RetTour w w' (K.run x.nd x.l x.s x.r o) e:=by
 obtain ⟨w1,hw1⟩:∃ w1:World,w1=w.alloc (.cells #[.int .i64 x.nd,.slice x.A x.n x.c] 24):=⟨_,rfl⟩
 obtain ⟨w2,hw2⟩:∃ w2:World,w2=w1.alloc (.cells #[.int .i64 x.s.day,.int .i64 x.s.depot,.int .i64 x.s.start,.int .i64 x.s.end_,.int .i64 x.s.tare,.slice x.s.A x.s.n x.s.c] 63):=⟨_,rfl⟩
 obtain ⟨w3,hw3⟩:∃ w3:World,w3=w2.alloc (.cells #[.int .i64 0,.slice none 0 0,.slice none 0 0,.int .i64 0] 80):=⟨_,rfl⟩
 have z1:w1.heap.size=w.heap.size + 1:=by rw [hw1];exact World.size_alloc _ _
 have z2:w2.heap.size=w.heap.size + 1 + 1:=by rw [hw2,World.size_alloc,z1]
 have z3:w3.heap.size=w.heap.size + 1 + 1 + 1:=by rw [hw3,World.size_alloc,z2]
 have b01:Below w.heap.size w w1:=by rw [hw1];exact (Below.refl _ _).alloc (Nat.le_refl _) _
 have b12:Below w1.heap.size w1 w2:=by rw [hw2];exact (Below.refl _ _).alloc (Nat.le_refl _) _
 have b23:Below w2.heap.size w2 w3:=by rw [hw3];exact (Below.refl _ _).alloc (Nat.le_refl _) _
 have hP:Net w3 w.heap.size x.nd x.A x.n x.c:=by
  have h1:Net w1 w.heap.size x.nd x.A x.n x.c:=by rw [hw1];exact Net.new _ _ _ _ _
  exact (h1.below b12).below b23
 have hS:Shf w3 (w.heap.size + 1) x.s:=by
  have h1:Shf w2 (w.heap.size + 1) x.s:=by rw [←z1,hw2];exact Shf.new _ _
  exact h1.below b23
 have hR:TrBlk w3 (w.heap.size + 1 + 1) (.slice none 0 0) (.slice none 0 0) 0:=by rw [←z2,hw3];exact heap_alloc_new _ _
 have b3:=bel (bel b01 b12) b23
 have p0:=hP.c0
 have p1:=hP.c1
 obtain ⟨s0,s1,s2,s3,s4,s5⟩:=hS.cells
 have Z3:=Lib.hid z3
 rw [hw3,hw2,hw1] at p0 p1 s0 s1 s2 s3 s4 s5
 go_enter Tryz.func131,Tryz.ntmps131
 go_wp2_with fail
 rw [←hw1,←hw2,←hw3]
 clear hw1 hw2 hw3 z1 z2 z3 b01 b12 b23 p0 p1 s0 s1 s2 s3 s4 s5
 refine (rright30_any x V vn vc o _ (hx.below b3) (hV.below b3) (by omega)).mono ?_
 rintro e w4 ⟨rfl,b34⟩
 have hP:=hP.below b34
 have hS:=hS.below b34
 have hR:=hR.below b34 (by rw [Z3.out];omega)
 have b4:=bel b3 b34
 clear b3
 cases hr:K.right x.nd x.l x.s x.r o
 ·have HX:=Lib.hid (show K.run x.nd x.l x.s x.r o=⟨K.Tr.zero,1,0⟩ by unfold K.run;rw [if_pos hr])
  clear hr
  obtain ⟨r0,r1,r2,r3⟩:=hR.cells
  have f0:=hR.free 0
  have f1:=hR.free 1
  have f2:=hR.free 2
  have f3:=hR.free 3
  go_wp2_with fail
  refine bodyPost_ret_by (v:=.tuple #[.agg #[.int .i64 0,.slice none 0 0,.slice none 0 0,.int .i64 0],.int .i64 1,.int .i64 0]) ?_ rfl ?_
  ·obtain ⟨z0,z1,z2,z3⟩:=(hR.set (.slice none 0 0) (.slice none 0 0) 0).cells
   rw [results_cell_tmp2 rfl]
   simp [go_sem,z0,z1,z2,z3]
  ·exact retTour_zero HX.out (below_set4 b4 (by omega) _ _ _ _)
 ·obtain ⟨hne,hld,hdp,hno⟩:=K.right_parts hr
  obtain ⟨hck,hset,hall⟩:=T.load_parts hld
  obtain ⟨-,⟨d0,d1⟩,st0,st1,en1⟩:=K.check_parts hck
  have HSET:=Lib.hid (T.isSetFrom_mem hset)
  have HALL:=Lib.hid hall
  have HNO:=Lib.hid hno
  have HRT:=Lib.hid hr
  have HNE:=Lib.hid hne
  clear hr hne hld hset hall hck hno
  obtain ⟨i0,hi,hz0,hz1,hz2⟩:=info_parts Tryz.info3
  have hrs:w.heap.size + 1 + 1 < w4.heap.size:=by have:=b34.size;have:=Z3.out;omega
  have HLN:=Lib.hid hV.1
  have hlit:(w4.alloc (.cells #[] 3)).ownsRow w4.heap.size 3 1 (.slice (some ⟨w4.heap.size,0,none⟩) 0 0) 0 []:=own_lit (heap_alloc_new w4 (.cells #[] 3)) (Nat.le_refl _)
  have ba4:Below w4.heap.size w4 (w4.alloc (.cells #[] 3)):=(Below.refl _ _).alloc (Nat.le_refl _) _
  go_wp2_with (at_builtin;refine wp_append_rd rfl (.tmp 25) (.tmp 26) 48 rfl w4.heap.size 3 i0 (.int .i64 0) 1 8 Tryz.underlying48 hi hz0 hz1 hz2 rfl (by decide) (.slice (some ⟨w4.heap.size,0,none⟩) 0 0) 0 [] rfl hlit V vn vc (intCells o) rfl (hV.below (bel b4 ba4)).2 (intCells_one o) (by simp only [maxLen];omega) (by omega) (by first | (simp;done) | (simp;omega)) ?_;intro v' w5 hown5 hgrow5 hat5;rw [Nat.zero_add,List.nil_append] at hown5;obtain ⟨SA,sc,rfl,hI5⟩:=own_ints hown5 HLN.out;have hSA:=(fun ad (e:SA=some ad)=>(hown5.lt _ (by rw [e];rfl)));have b45:Below w4.heap.size w4 w5:=below_own2 ba4 hgrow5 (lit_block (Nat.le_refl _));have b5a:Below w5.heap.size w5 (w5.alloc (.cells #[.int .i64 0,.slice SA vn sc,.slice none 0 0,.int .i64 0] 80)):=(Below.refl _ _).alloc (Nat.le_refl _) _;have g1:=((hS.below b45).below b5a).cells.2.1;have g2:=((hS.below b45).below b5a).cells.2.2.1)
  have b5:=bel b4 b45
  have hP:=hP.below b45
  have hS:=hS.below b45
  have hR:=hR.below b45 hrs
  have hrs5:w.heap.size + 1 + 1 < w5.heap.size:=by have:=b45.size;omega
  have hrel0:NRel x o w5 (.slice SA vn sc) 0 (.slice none 0 0) x.s.depot x.s.start [] (w5.alloc (.cells #[.int .i64 0,.slice SA vn sc,.slice none 0 0,.int .i64 0] 80)) :=
   ⟨by simp,rfl,heap_alloc_new w5 _,World.ownsRow_nil _ _ _ _,⟨d0,hdp⟩,⟨st0,by omega⟩,b5a⟩
  clear hown5 hgrow5 hat5 hlit ba4 hi hz0 hz1 hz2 b45 g1 g2 b5a b34
  go_loopw [12,13,14] (fun v12 v13 v14 wr=>∃ (k:Nat) (tv:Value) (a t:Int) (ts:List Int),v12=.int .i64 t∧v13=.int .i64 a∧v14=.int .i64 k∧k≤vn∧NRel x o w5 (.slice SA vn sc) k tv a t ts wr) (fun _ _ v14 _=>vn - (intOf v14).toNat)
  case atStart=>exact ⟨0,_,_,_,[],rfl,rfl,rfl,by omega,hrel0⟩
  case round =>
   clear hrel0
   obtain ⟨k,tv,a,t,ts,rfl,rfl,rfl,hk,hrr⟩:=hrel
   have hbr:=hrr.bw
   have hbw:=bel b5 hbr
   have hSr:=hS.below hbr
   have hPr:=hP.below hbr
   by_cases hlt:k < vn
   ·obtain ⟨adv,i,rfl,hi,ciw⟩:=hV.at_ hlt
    have ci:=(hbw.cell (cell_lt ciw)).trans ciw
    have him:=List.mem_of_getElem? hi
    obtain ⟨hi0,hi1⟩:=HSET.out i him
    obtain ⟨j,rfl⟩:∃ j:Nat,i=(j:Int):=⟨i.toNat,by omega⟩
    obtain ⟨q,hq⟩:∃ q,x.r[j]? = some q:=⟨_,List.getElem?_eq_getElem (by omega)⟩
    obtain ⟨⟨n0,-⟩,⟨e0,e1⟩,-⟩:=K.right_req (HALL.out q (List.mem_of_getElem? hq))
    have hnq:=HNO.out _ him
    rw [K.req_get hq] at hnq
    have HRQ:=Lib.hid (K.req_get hq)
    have HI:=Lib.hid hi
    have HRR:=Lib.hid hrr
    have ha0:=hrr.a0
    have ht0:=hrr.t0
    have him:j < x.m:=by rw [hx.reqs.1];omega
    have j0:(0:Int)≤(j:Int):=by omega
    have j1:(j:Int) < (x.m:Int):=by omega
    obtain ⟨adq,q',hB,hgq,-,y0,-,-,y3,-⟩:=hx.reqs.at_ him
    rw [hq] at hgq
    injection hgq with hgq
    subst hgq
    obtain ⟨lb,hlb⟩:∃ lb,lb=(K.leg x.nd x.l x.s x.r (o.take k) j a t).1:=⟨_,rfl⟩
    obtain ⟨le,hle⟩:∃ le,le=(K.leg x.nd x.l x.s x.r (o.take k) j a t).2:=⟨_,rfl⟩
    have hAr:=hx.below hbw
    have hIk:∀ w',Below wr.heap.size wr w'→Ints w' (some adv) k (o.take k):=fun w' h=>(hV.below (bel hbw h)).take (by omega)
    have CL:=fun z:Beh wr=>leg_any x (some adv) k vc (o.take k) j q a t z.val (hAr.below z.property) (hIk _ z.property) (by omega) HNE.out ha0 hq ⟨n0,hnq⟩ ht0 ⟨e0,e1⟩
    unfold Leg at CL
    simp only [←hlb,←hle,hB] at CL
    rw [hB]
    clear hB
    obtain ⟨s0,s1,s2,s3,s4,s5⟩:=hSr.cells
    have g0:=Beh.cell hPr.c0
    have g1:=Beh.cell hPr.c1
    have f0:=Beh.cell s0
    have f1:=Beh.cell s1
    have f2:=Beh.cell s2
    have f3:=Beh.cell s3
    have f4:=Beh.cell s4
    have f5:=Beh.cell s5
    have fi:=Beh.cell ci
    have k0:(0:Int)≤(k:Int):=by omega
    have k1:(k:Int)≤(vc:Int):=by omega
    have k2:(k:Int) < (vn:Int):=by omega
    have HLB:=Lib.hid hlb
    have HLE:=Lib.hid hle
    clear hi him hrr hlb hle s0 s1 s2 s3 s4 s5
    go_wp2_with fail
    refine reg_beh (by kernel_rfl) (by kernel_rfl) ?_
    repeat (go_big_quiet_step ((go_at_call 180;exact Beh.calls (CL _))))
    refine wpQuiet_nil ?_
    rintro w6 ⟨⟨_,b56⟩,rfl⟩
    have hb6w:=bel hbw b56
    have hR6:=hR.below (bel hbr b56) hrs5
    clear CL g0 g1 f0 f1 f2 f3 f4 f5 fi
    cases h0:(le == 0)
    ·have h0':(le != 0)=true:=by simp [bne,h0]
     have hne0:le ≠ 0:=by simpa using h0
     have HX:=Lib.hid (show K.run x.nd x.l x.s x.r o=⟨K.Tr.zero,le,k⟩ by
      rw [K.run_legs HRT.out HRR.out.legs,K.legs_no HI.out (by rw [←HLE.out];exact hne0),←HLE.out,if_pos hne0]
      simp [HRR.out.len])
     obtain ⟨r0,r1,r2,r3⟩:=hR6.cells
     have f0:=hR6.free 0
     have f1:=hR6.free 1
     have f2:=hR6.free 2
     have f3:=hR6.free 3
     clear h0 hne0
     go_wp2_with fail
     refine bodyPost_ret_by (v:=.tuple #[.agg #[.int .i64 0,.slice none 0 0,.slice none 0 0,.int .i64 0],.int .i64 le,.int .i64 k]) ?_ rfl ?_
     ·obtain ⟨z0,z1,z2,z3⟩:=(hR6.set (.slice none 0 0) (.slice none 0 0) 0).cells
      rw [results_cell_tmp2 rfl]
      simp [go_sem,z0,z1,z2,z3]
     ·exact retTour_zero HX.out (below_set4 hb6w (by omega) _ _ _ _)
    ·have h0':(le != 0)=false:=by simp [bne,h0]
     have hee:le=0:=by simpa using h0
     have HRE:=Lib.hid (show (0:Int)=(K.leg x.nd x.l x.s x.r (List.take k o) j a t).2 by rw [←hee];exact HLE.out)
     have hT6:=HRR.out.blk.below b56
     have u2:=hT6.cells.2.2.1
     have hown6:(w6.alloc (.cells #[.int .i64 lb] 3)).ownsRow (w5.heap.size + 1) 3 1 tv k (intCells ts):=(own_below HRR.out.own b56).alloc _
     have ba6:Below w6.heap.size w6 (w6.alloc (.cells #[.int .i64 lb] 3)):=(Below.refl _ _).alloc (Nat.le_refl _) _
     have hs5:=b56.size
     have hs4:=hbr.size
     have hbL:=HRR.out.own.lt
     have hlk:=K.leg_ok (nd:=x.nd) (l:=x.l) (s:=x.s) (r:=x.r) (v:=List.take k o) (i:=j) (a:=a) (t:=t) HRE.out.symm
     have hlb2:0≤lb∧lb≤1000000:=by
      obtain ⟨-,-,-,l4,l5,l6,l7⟩:=hlk
      obtain ⟨-,-,-,f1,f2⟩:=H.fit_ok l5
      obtain ⟨-,r2,r3,-⟩:=K.reach_ok l4
      have h9:=HLB.out
      rw [l6] at h9 l7
      rw [HRQ.out] at *
      omega
     obtain ⟨lb0,lb1⟩:=hlb2
     have hwrap:IntKind.i64.wrap (lb + q.service)=lb + q.service:=IntWalk.i64_in _ (by omega)
     have hs6:w5.heap.size + 1≤(w6.alloc (.cells #[.int .i64 lb] 3)).heap.size:=by rw [World.size_alloc];omega
     clear h0 hlk
     subst hee
     go_wp2_with (at_builtin;refine app_int rfl (.tmp 61) (.tmp 63) rfl (w5.heap.size + 1) tv k ts rfl hown6 w6.heap.size lb rfl (heap_alloc_at _ _ _ rfl) (by omega) hs6 ?_;intro tv' w7 hown7 hgrow7 hat7;obtain ⟨A7,c7,rfl,-,-⟩:=own_form hown7;have hT7:=grow_blk hgrow7 (hT6.below ba6) (fun e=>(by have:=(hbL _ e.symm).1;omega));have v2:=blk_free hT7 2;have v2c:=blk_cell hT7 2 _ rfl;have b7:Below w5.heap.size w5 w7:=below_own2 (bel (bel hbr b56) ba6) hgrow7 (fun g e=>(by have:=(hbL g e).1;omega));have b8:Below w.heap.size w (w7.setCell ⟨w5.heap.size,2,none⟩ (.slice A7 (k + 1) c7)):=bel b5 (b7.setCell (Nat.le_refl _) _);have yy0:=(b8.cell (cell_lt y0)).trans y0;have yy3:=(b8.cell (cell_lt y3)).trans y3;have ci8:=(b8.cell (cell_lt ciw)).trans ciw)
     have hN:=HRR.out.next HI.out HLB.out HRE.out rfl b56 hown7 hgrow7 (by rw [HRQ.out];exact ⟨n0,hnq⟩) (by rw [HRQ.out];exact e0)
     rw [HRQ.out] at hN
     go_roundw
     case rel=>exact ⟨k + 1,.slice A7 (k + 1) c7,_,_,ts ++ [lb],rfl,rfl,by go_num,by omega,hN⟩
     case measure=>simp [intOf];omega
   ·have hkv:vn=k:=by omega
    subst hkv
    have hto:o.take vn=o:=List.take_of_length_le (by rw [←hV.1];omega)
    have hdo:o.drop vn=[]:=List.drop_eq_nil_of_le (by rw [←hV.1];omega)
    have hl0:=hrr.legs
    rw [hto,hdo] at hl0
    have hl1:K.legs x.nd x.l x.s x.r [] x.s.depot x.s.start o=⟨ts,a,t,0⟩:=by rw [hl0];simp [K.legs]
    have hRn:=K.run_legs HRT.out hl1
    simp only [ne_eq,not_true_eq_false,if_false] at hRn
    have HRN:=Lib.hid hRn
    obtain ⟨A7,c7,rfl,hI7⟩:=own_ints hrr.own hrr.len.symm
    have hA7:∀ ad,A7=some ad→w5.heap.size + 1≤ad.block:=fun ad e=>(hrr.own.lt _ (by rw [e];rfl)).1
    have hblk:=hrr.blk
    have ha0:=hrr.a0
    have ht0:=hrr.t0
    clear hrr hto hdo hl0 hl1 hRn
    obtain ⟨dn,hdn⟩:∃ dn:Nat,x.s.depot=(dn:Int):=⟨x.s.depot.toNat,by omega⟩
    obtain ⟨s0,s1,s2,s3,s4,s5⟩:=hSr.cells
    have g0:=Beh.cell hPr.c0
    have g1:=Beh.cell hPr.c1
    have f0:=Beh.cell s0
    have f1:=Beh.cell s1
    have f2:=Beh.cell s2
    have f3:=Beh.cell s3
    have f4:=Beh.cell s4
    have f5:=Beh.cell s5
    have hA4:=hx.below hbw
    have hV4:=hV.below hbw
    obtain ⟨wt,hwt⟩:∃ wt,wt=T.weight x.s x.r o:=⟨_,rfl⟩
    obtain ⟨y,hy⟩:∃ y,y=K.way x.nd x.l a wt x.s.depot:=⟨_,rfl⟩
    have hdn2:(dn:Int) < x.nd:=by omega
    have CW:=fun j:Beh wr=>rweight_any x.s x.B x.m x.d x.r V vn vc o j.val ((hA4.below j.property).rooms) hx.b2 ((hA4.below j.property).reqs) hx.b3 hx.b4 (hV4.below j.property) (by omega)
    have CY:=fun j:Beh wr=>rway_any x.nd x.A x.n x.c x.l a dn wt j.val ((hA4.below j.property).net) hx.b1 HNE.out ha0 hdn2
    simp only [←hwt] at CW
    simp only [←hdn,←hy] at CY
    have hyb:=K.way_bd x.nd x.l a wt x.s.depot
    rw [←hy] at hyb
    obtain ⟨hy0,hy1⟩:=hyb
    have HY:=Lib.hid (show K.way x.nd x.l a (T.weight x.s x.r o) x.s.depot=y by rw [←hwt,hy])
    clear hy hwt hdn s0 s1 s2 s3 s4 s5
    go_wp2_with fail
    refine reg_beh (by kernel_rfl) (by kernel_rfl) ?_
    repeat (go_big_quiet_step ((first | (go_at_call 146;exact Beh.calls (CW _)) | (go_at_call 181;exact Beh.calls (CY _)))))
    refine wpQuiet_nil ?_
    rintro w6 ⟨⟨_,b56⟩,rfl⟩
    clear CW CY g0 g1 f0 f1 f2 f3 f4 f5 hA4 hV4
    have hb6w:=bel hbw b56
    have b6:=bel hbr b56
    have hR6:=hR.below b6 hrs5
    have hT6:=hblk.below b56
    obtain ⟨s0,s1,s2,s3,s4,s5⟩:=(hSr.below b56).cells
    obtain ⟨r0,r1,r2,r3⟩:=hR6.cells
    have f0:=hR6.free 0
    have f1:=hR6.free 1
    have f2:=hR6.free 2
    have f3:=hR6.free 3
    cases h1:decide (y < 0)
    rotate_left
    ·have HX:=Lib.hid (show K.run x.nd x.l x.s x.r o=⟨K.Tr.zero,4,vn⟩ by
      have hr:K.reach x.nd x.l x.s x.r o a t x.s.depot=(0,4):=by unfold K.reach;rw [HY.out,if_pos (by have h1:=of_decide_eq_true h1;omega)]
      rw [HRN.out,hr,if_pos (by decide),←HLN.out])
     go_wp2_with fail
     refine bodyPost_ret_by (v:=.tuple #[.agg #[.int .i64 0,.slice none 0 0,.slice none 0 0,.int .i64 0],.int .i64 4,.int .i64 vn]) ?_ rfl ?_
     ·obtain ⟨z0,z1,z2,z3⟩:=(hR6.set (.slice none 0 0) (.slice none 0 0) 0).cells
      rw [results_cell_tmp2 rfl]
      simp [go_sem,z0,z1,z2,z3]
     ·exact retTour_zero HX.out (below_set4 hb6w (by omega) _ _ _ _)
    have hyp:¬ y < 0:=of_decide_eq_false h1
    have hwrap:IntKind.i64.wrap (t + y)=t + y:=IntWalk.i64_in _ (by omega)
    cases h2:decide (x.s.end_ < t + y)
    rotate_left
    ·have HX:=Lib.hid (show K.run x.nd x.l x.s x.r o=⟨K.Tr.zero,18,vn⟩ by
      have hr:K.reach x.nd x.l x.s x.r o a t x.s.depot=(0,18):=by unfold K.reach;rw [HY.out,if_neg (by omega),if_pos (of_decide_eq_true h2)]
      rw [HRN.out,hr,if_pos (by decide),←HLN.out])
     go_wp2_with fail
     refine bodyPost_ret_by (v:=.tuple #[.agg #[.int .i64 0,.slice none 0 0,.slice none 0 0,.int .i64 0],.int .i64 18,.int .i64 vn]) ?_ rfl ?_
     ·obtain ⟨z0,z1,z2,z3⟩:=(hR6.set (.slice none 0 0) (.slice none 0 0) 0).cells
      rw [results_cell_tmp2 rfl]
      simp [go_sem,z0,z1,z2,z3]
     ·exact retTour_zero HX.out (below_set4 hb6w (by omega) _ _ _ _)
    have h2':¬ x.s.end_ < t + y:=of_decide_eq_false h2
    have HX:=Lib.hid (show K.run x.nd x.l x.s x.r o=⟨⟨o,ts,t + y⟩,0,o.length⟩ by
     have hr:K.reach x.nd x.l x.s x.r o a t x.s.depot=(t + y,0):=by unfold K.reach;rw [HY.out,if_neg (by omega),if_neg h2']
     rw [HRN.out,hr];simp)
    clear hyp h2' r0 r1 r2 r3 f0 f1 f2 f3
    have v3:=blk_free hT6 3
    have v3c:=blk_cell hT6 3 _ rfl
    have b7:Below w5.heap.size w5 (w6.setCell ⟨w5.heap.size,3,none⟩ (.int .i64 (t + y))):=b6.setCell (Nat.le_refl _) _
    have hT7:TBlk (w6.setCell ⟨w5.heap.size,3,none⟩ (.int .i64 (t + y))) w5.heap.size 0 (.slice SA vn sc) (.slice A7 vn c7) (t + y):=blk_set hT6 3 _
    obtain ⟨y0,y1,y2,y3⟩:=hT7.cells
    have hR7:=hR.below b7 hrs5
    obtain ⟨r0,r1,r2,r3⟩:=hR7.cells
    have f0:=hR7.free 0
    have f1:=hR7.free 1
    have f2:=hR7.free 2
    have f3:=hR7.free 3
    have hA6:Ints (w6.setCell ⟨w5.heap.size,3,none⟩ (.int .i64 (t + y))) SA vn o:=(hI5.below b6).set _ (fun ad e=>by have:=hSA ad e;omega)
    have hB6:Ints (w6.setCell ⟨w5.heap.size,3,none⟩ (.int .i64 (t + y))) A7 vn ts:=(hI7.below b56).set _ (fun ad e=>by have:=hA7 ad e;omega)
    go_wp2_with fail
    refine bodyPost_ret_by (v:=.tuple #[.agg #[.int .i64 0,.slice SA vn sc,.slice A7 vn c7,.int .i64 (t + y)],.int .i64 0,.int .i64 vn]) ?_ rfl ?_
    ·obtain ⟨z0,z1,z2,z3⟩:=(hR7.set (.slice SA vn sc) (.slice A7 vn c7) (t + y)).cells
     rw [results_cell_tmp2 rfl]
     simp [go_sem,z0,z1,z2,z3]
    ·exact retTour_mk HX.out rfl (by rw [HLN.out]) (bel b5 b7) hA6 hB6 (fun ad e=>by have:=hSA ad e;omega) (fun ad e=>by have:=hA7 ad e;omega) (by omega) rfl
set_option maxRecDepth 100000 in
set_option maxHeartbeats 8000000 in
theorem rtcheck_any (x:C) (y:TV) (w:World) (hx:At w x) (hy:TVAt w y) (hn:y.n≤100000) (hyc:y.n≤y.c) :
  Calls Tryz.prog 87 #[.agg #[.int .i64 x.nd,.slice x.A x.n x.c],.agg #[.int .i64 x.s.day,.int .i64 x.s.depot,.int .i64 x.s.start,.int .i64 x.s.end_,.int .i64 x.s.tare,.slice x.s.A x.s.n x.s.c],.slice x.B x.m x.d,.agg #[.int .i64 y.sh,.slice y.A y.n y.c,.slice y.A' y.n' y.c',.int .i64 y.t.end_]] w fun e w'=>e=.returned (.bool (K.check x.nd x.l x.s x.r y.t))∧Below w.heap.size w w':=by
 obtain ⟨w1,hw1⟩:∃ w1:World,w1=w.alloc (.cells #[.int .i64 x.nd,.slice x.A x.n x.c] 24):=⟨_,rfl⟩
 obtain ⟨w2,hw2⟩:∃ w2:World,w2=w1.alloc (.cells #[.int .i64 x.s.day,.int .i64 x.s.depot,.int .i64 x.s.start,.int .i64 x.s.end_,.int .i64 x.s.tare,.slice x.s.A x.s.n x.s.c] 63):=⟨_,rfl⟩
 obtain ⟨w3,hw3⟩:∃ w3:World,w3=w2.alloc (.cells #[.int .i64 y.sh,.slice y.A y.n y.c,.slice y.A' y.n' y.c',.int .i64 y.t.end_] 80):=⟨_,rfl⟩
 have z1:w1.heap.size=w.heap.size + 1:=by rw [hw1];exact World.size_alloc _ _
 have z2:w2.heap.size=w.heap.size + 1 + 1:=by rw [hw2,World.size_alloc,z1]
 have b01:Below w.heap.size w w1:=by rw [hw1];exact (Below.refl _ _).alloc (Nat.le_refl _) _
 have b12:Below w1.heap.size w1 w2:=by rw [hw2];exact (Below.refl _ _).alloc (Nat.le_refl _) _
 have b23:Below w2.heap.size w2 w3:=by rw [hw3];exact (Below.refl _ _).alloc (Nat.le_refl _) _
 have hP:Net w3 w.heap.size x.nd x.A x.n x.c:=by
  have h1:Net w1 w.heap.size x.nd x.A x.n x.c:=by rw [hw1];exact Net.new _ _ _ _ _
  exact (h1.below b12).below b23
 have hS:Shf w3 (w.heap.size + 1) x.s:=by
  have h1:Shf w2 (w.heap.size + 1) x.s:=by rw [←z1,hw2];exact Shf.new _ _
  exact h1.below b23
 have hT:TBlk w3 (w.heap.size + 1 + 1) y.sh (.slice y.A y.n y.c) (.slice y.A' y.n' y.c') y.t.end_:=by rw [←z2,hw3];exact heap_alloc_new _ _
 have b3:=bel (bel b01 b12) b23
 have p0:=hP.c0
 have p1:=hP.c1
 obtain ⟨s0,s1,s2,s3,s4,s5⟩:=hS.cells
 obtain ⟨t0,t1,t2,t3⟩:=hT.cells
 rw [hw3,hw2,hw1] at p0 p1 s0 s1 s2 s3 s4 s5 t0 t1 t2 t3
 go_enter Tryz.func87,Tryz.ntmps87
 go_wp2_with fail
 rw [←hw1,←hw2,←hw3]
 clear hw1 hw2 hw3 z1 z2 b01 b12 b23 p0 p1 s0 s1 s2 s3 s4 s5 t0 t1 t2 t3
 refine (rrun_any x y.A y.n y.c y.t.stops _ (hx.below b3) (hy.below b3).stops hyc hn).mono ?_
 rintro e w4 ⟨⟨A1,n1,c1,A2,n2,c2,rfl,hI1,hI2,-⟩,b34⟩
 have hlen:=K.run_len x.nd x.l x.s x.r y.t.stops
 obtain ⟨R,hR⟩:∃ R,R=K.run x.nd x.l x.s x.r y.t.stops:=⟨_,rfl⟩
 rw [←hR] at hI1 hI2 hlen ⊢
 have HR:=Lib.hid (show K.check x.nd x.l x.s x.r y.t=((R.e == 0) && (decide (R.tour.times=y.t.times) && (R.tour.end_ == y.t.end_))) by rw [hR];rfl)
 have hn1:n1≤1000000000:=by rw [hI1.1];have:=hlen.1;have:=hy.stops.1;omega
 have hn2:n2≤1000000000:=by rw [hI2.1];have:=hlen.2;have:=hy.stops.1;omega
 have HRR:=Lib.hid hR
 clear hR hlen
 have hT:=hT.below b34
 have hb:=bel b3 b34
 have ba:Below w4.heap.size w4 (w4.alloc (.cells #[.int .i64 0,.slice A1 n1 c1,.slice A2 n2 c2,.int .i64 R.tour.end_] 80)):=(Below.refl _ _).alloc (Nat.le_refl _) _
 have hT2:TBlk (w4.alloc (.cells #[.int .i64 0,.slice A1 n1 c1,.slice A2 n2 c2,.int .i64 R.tour.end_] 80)) w4.heap.size 0 (.slice A1 n1 c1) (.slice A2 n2 c2) R.tour.end_:=heap_alloc_new _ _
 have hT1:=hT.below ba
 obtain ⟨w5,hw5⟩:∃ w5:World,w5=w4.alloc (.cells #[.int .i64 0,.slice A1 n1 c1,.slice A2 n2 c2,.int .i64 R.tour.end_] 80):=⟨_,rfl⟩
 obtain ⟨q0,q1,q2,q3⟩:=hT1.cells
 obtain ⟨r0,r1,r2,r3⟩:=hT2.cells
 cases k0:(R.e == 0)
 ·have HX:=Lib.hid (show K.check x.nd x.l x.s x.r y.t=false by rw [HR.out,k0];rfl)
  clear hw5
  go_wp2_with fail
  go_ret
  exact ⟨ret_b HX.out.symm,bel hb ba⟩
 have HX:=Lib.hid (show K.check x.nd x.l x.s x.r y.t=K.same R.tour y.t by
  have hst:R.tour.stops=y.t.stops:=by
   have h0:(K.run x.nd x.l x.s x.r y.t.stops).e=0:=by rw [←HRR.out];simpa using k0
   rw [HRR.out,(K.run_ok h0).2.2.2]
  rw [HR.out,k0]
  simp [K.same,hst])
 rw [←hw5] at ba hT1 hT2
 have hb5:=bel hb ba
 have hI15:=hI1.below ba
 have hI25:=hI2.below ba
 go_wp2_with fail
 rw [←hw5]
 clear hw5 q0 q1 q2 q3 r0 r1 r2 r3 k0 HR
 refine (sameTour_any ⟨0,A1,n1,c1,A2,n2,c2,R.tour⟩ y _ ⟨hI15,hI25,hn1,hn2⟩ (hy.below hb5)).mono ?_
 rintro e w6 ⟨rfl,b56⟩
 have hb6:=bel hb5 b56
 go_wp2_with fail
 go_ret
 exact ⟨ret_b HX.out.symm,hb6⟩
end Go.Proofs.YtippdjmpkafifaaGreat
