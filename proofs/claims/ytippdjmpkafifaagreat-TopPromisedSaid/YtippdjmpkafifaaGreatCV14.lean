import Derived.Test.YtippdjmpkafifaaGreatCV13
import Derived.Test.YtippdjmpkafifaaGreatCV5
import Derived.Lib.LazyBuf
import Derived.Deep.RegionHeld3
namespace Go.Proofs.YtippdjmpkafifaaGreat
open Go.RowKit
namespace K
def topS (A:Option Addr) (c:Nat):S:=⟨5,0,0,60,8000,A,1,c,[1000]⟩
def topQ:Q:=⟨1,0,600,5,0,9,none,0,0,[]⟩
def badTS (nd:Int) (r:List Q) (most:Nat) (s:S):Bool:=!T.few s r most || (!(T.check s == 0) || decide (nd≤s.depot))
def badTQ (nd:Int) (q:Q):Bool:=decide (6 < q.n) || (!T.right q || decide (nd≤q.node))
def topFew (nd:Int) (n:Nat) (l:List Ro) (ss:List S) (r:List Q) (most:Nat):Bool:=few27 nd n && (decide (ss.length≤2) && (decide (r.length≤most) && ((netErr nd l == 0) && (!ss.any (badTS nd r most) && !r.any (badTQ nd)))))
end K
structure TopFew (x:Cs) (most:Nat):Prop where
 few:K.few27 x.nd x.n=true
 sn:x.ss.length≤2
 m:x.r.length≤most
 net:K.netErr x.nd x.l=0
 s:∀ s ∈ x.ss,T.few s x.r most=true∧T.check s=0∧s.depot < x.nd
 r:∀ q ∈ x.r,q.n≤6∧T.right q=true∧q.node < x.nd
theorem topFew_iff {x:Cs} {most:Nat} (h:K.topFew x.nd x.n x.l x.ss x.r most=true):TopFew x most:=by
 simp only [K.topFew,Bool.and_eq_true,decide_eq_true_eq,beq_iff_eq,Bool.not_eq_true',List.any_eq_false] at h
 obtain ⟨h1,h2,h3,h4,h5,h6⟩:=h
 refine ⟨h1,h2,h3,h4,fun s hs=>?_,fun q hq=>?_⟩
 ·have:=h5 s hs
  simp only [K.badTS,Bool.or_eq_true,Bool.not_eq_true',beq_eq_false_iff_ne,decide_eq_true_eq,not_or] at this
  refine ⟨by simpa using this.1,by simpa using this.2.1,by have:=this.2.2;omega⟩
 ·have:=h6 q hq
  simp only [K.badTQ,Bool.or_eq_true,Bool.not_eq_true',decide_eq_true_eq,not_or] at this
  refine ⟨by have:=this.1;omega,by simpa using this.2.1,by have:=this.2.2;omega⟩
set_option maxRecDepth 100000 in
set_option maxHeartbeats 16000000 in
theorem wholeFew_any (x:Cs) (most:Nat) (hmo:most≤1000) (w:World) (hR:Roads w x.A x.n x.l) (hSS:Shifts w x.SA x.sn x.ss) (hQ:Reqs w x.B x.m x.r) :
  Calls Tryz.prog 57 #[.agg #[.int .i64 x.nd,.slice x.A x.n x.c],.slice x.SA x.sn x.sc,.slice x.B x.m x.d,.int .i64 (most:Int)] w fun e w'=>e=.returned (.bool (K.topFew x.nd x.n x.l x.ss x.r most))∧Below w.heap.size w w':=by
 obtain ⟨R,hRR⟩:∃ R,R=K.topFew x.nd x.n x.l x.ss x.r most:=⟨_,rfl⟩
 rw [←hRR]
 have HR:=Lib.hid (show R=(K.few27 x.nd x.n && (decide (x.ss.length≤2) && (decide (x.r.length≤most) && ((K.netErr x.nd x.l == 0) && (!x.ss.any (K.badTS x.nd x.r most) && !x.r.any (K.badTQ x.nd)))))) from hRR)
 clear hRR
 obtain ⟨w1,hw1⟩:∃ w1:World,w1=w.alloc (.cells #[.int .i64 x.nd,.slice x.A x.n x.c] 24):=⟨_,rfl⟩
 have b0:Below w.heap.size w w1:=by rw [hw1];exact (Below.refl _ _).alloc (Nat.le_refl _) _
 obtain ⟨G0,hG0⟩:∃ G0,G0=w.heap.size:=⟨_,rfl⟩
 have hN:Net w1 G0 x.nd x.A x.n x.c:=by rw [hw1,hG0];exact Net.new w x.nd x.A x.n x.c
 have HSN:=Lib.hid hSS.1.1
 have HRN:=Lib.hid hQ.1
 have p0:=hN.c0
 have p1:=hN.c1
 obtain ⟨zf,hzf⟩:∃ z,z=K.few27 x.nd x.n:=⟨_,rfl⟩
 go_enter Tryz.func57,Tryz.ntmps57
 go_wp2_with fail
 rw [←hw1,←hG0]
 clear hw1 hG0
 refine (rfew27_any x.nd x.A x.n x.c _).mono ?_
 rw [←hzf]
 rintro e w2 ⟨rfl,b2⟩
 have HZF:=Lib.hid hzf
 have hN:=hN.below b2
 have hb2:=bel b0 b2
 clear p0 p1 b0 b2 hzf
 cases zf
 ·have HX:=Lib.hid (show R=false by rw [HR.out,←HZF.out];rfl)
  go_wp2_with fail
  go_ret
  exact ⟨by rw [HX.out];rfl,hb2⟩
 by_cases h4:x.sn≤2
 rotate_left
 ·have hd:decide ((2:Int) < (x.sn:Int))=true:=by simp;omega
  have hd2:decide (2 < x.sn)=true:=by simp;omega
  have HX:=Lib.hid (show R=false by rw [HR.out,←HSN.out,show decide (x.sn≤2)=false from decide_eq_false h4];simp)
  clear h4
  go_wp2_with fail
  go_ret
  exact ⟨by rw [HX.out];rfl,hb2⟩
 have hd:decide ((2:Int) < (x.sn:Int))=false:=by simp;omega
 have hd2:decide (2 < x.sn)=false:=by simp;omega
 by_cases h5:x.m≤most
 rotate_left
 ·have hf:decide ((most:Int) < (x.m:Int))=true:=by simp;omega
  have hf2:decide (most < x.m)=true:=by simp;omega
  have HX:=Lib.hid (show R=false by rw [HR.out,←HRN.out,show decide (x.m≤most)=false from decide_eq_false h5];simp)
  clear h5
  go_wp2_with fail
  go_ret
  exact ⟨by rw [HX.out];rfl,hb2⟩
 have hf:decide ((most:Int) < (x.m:Int))=false:=by simp;omega
 have hf2:decide (most < x.m)=false:=by simp;omega
 have hn40:x.n≤1000000000:=by
  have h9:=HZF.out
  simp only [K.few27] at h9
  simp at h9
  omega
 obtain ⟨ne,hne⟩:∃ ne,ne=K.netErr x.nd x.l:=⟨_,rfl⟩
 have p0:=hN.c0
 have p1:=hN.c1
 go_wp2_with fail
 refine (rnetcheck_any x.nd x.A x.n x.c x.l _ (Lst.below hR hb2) hn40).mono ?_
 rw [←hne]
 rintro e w3 ⟨rfl,b3⟩
 have HNE:=Lib.hid hne
 have hN:=hN.below b3
 have hb3:=bel hb2 b3
 clear p0 p1 hne
 by_cases hz:ne=0
 rotate_left
 ·have hg:(ne != 0)=true:=by simp [bne,hz]
  have HX:=Lib.hid (show R=false by rw [HR.out,←HNE.out,show (ne == 0)=false by simp [hz]];simp)
  have hg2:decide (ne=0)=false:=by simp [hz]
  clear hz
  go_wp2_with fail
  go_ret
  exact ⟨by rw [HX.out];rfl,hb3⟩
 subst hz
 have HR2:=Lib.hid (show R=(!x.ss.any (K.badTS x.nd x.r most) && !x.r.any (K.badTQ x.nd)) by
  have h0:(K.netErr x.nd x.l == 0)=true:=by rw [←HNE.out];rfl
  have h9:decide (x.ss.length≤2)=true:=decide_eq_true (by rw [←HSN.out];exact h4)
  have h8:decide (x.r.length≤most)=true:=decide_eq_true (by rw [←HRN.out];exact h5)
  rw [HR.out,←HZF.out,h0,h9,h8,Bool.true_and,Bool.true_and,Bool.true_and,Bool.true_and])
 clear HR HNE
 go_wp2_with fail
 clear hd hd2 hf hf2
 go_loopw [9] (fun v wr=>∃ k:Nat,v=.int .i64 (k:Int)∧k≤x.sn∧Hid (x.ss.any (K.badTS x.nd x.r most)=(x.ss.drop k).any (K.badTS x.nd x.r most))∧Below w3.heap.size w3 wr) (fun v _=>x.sn - (intOf v).toNat)
 case atStart=>exact ⟨0,rfl,Nat.zero_le _,(by show _=_;rw [List.drop_zero]),Below.refl _ _⟩
 case round =>
  obtain ⟨k,rfl,hk,hr,hbr⟩:=hrel
  have hbw:=bel hb3 hbr
  by_cases hlt:k < x.sn
  ·obtain ⟨ad,s,hA,hs,hI,c0,c1,c2,c3,c4,c5⟩:=(hSS.below hbw).at_ hlt
   have HS:=Lib.hid (drop_any (p:=K.badTS x.nd x.r most) hs)
   have k0:(0:Int)≤(k:Int):=by omega
   have k1:(k:Int) < (x.sn:Int):=by omega
   have kd:decide ((k:Int) < (x.sn:Int))=true:=decide_eq_true k1
   have kd2:decide (k < x.sn)=true:=decide_eq_true hlt
   obtain ⟨zt,hzt⟩:∃ zt,zt=T.few s x.r most:=⟨_,rfl⟩
   obtain ⟨ce,hce⟩:∃ ce,ce=T.check s:=⟨_,rfl⟩
   have hQr:=hQ.below hbw
   have CF:∀ i:Beh wr,Calls Tryz.prog 64 #[.agg #[.int .i64 s.day,.int .i64 s.depot,.int .i64 s.start,.int .i64 s.end_,.int .i64 s.tare,.slice s.A s.n s.c],.slice x.B x.m x.d,.int .i64 (most:Int)] i.val fun e w'=>e=.returned (.bool zt)∧Below i.val.heap.size i.val w':=fun i=>by rw [hzt];exact few_any s x.B x.m x.d x.r most i.val (hQr.below i.property) hmo
   have HBD:=Lib.hid (show K.badTS x.nd x.r most s=(!zt || (!(ce == 0) || decide (x.nd≤s.depot))) by rw [hce,hzt];rfl)
   have q0:=Beh.cell (hN.below hbr).c0
   have e0:=Beh.cell c0
   have e1:=Beh.cell c1
   have e2:=Beh.cell c2
   have e3:=Beh.cell c3
   have e4:=Beh.cell c4
   have e5:=Beh.cell c5
   have HZT:=Lib.hid hzt
   have HCE:=Lib.hid hce
   have HI:=Lib.hid hI
   clear hs hI hce hzt c0 c1 c2 c3 c4 c5
   rw [hA]
   clear hA
   obtain ⟨z1,hz1⟩:∃ z,z=(ce != 0):=⟨_,rfl⟩
   have HZ1:=Lib.hid (show (ce == 0)=!z1 by rw [hz1];simp [bne])
   obtain ⟨z2,hz2⟩:∃ z,z=decide (x.nd≤s.depot):=⟨_,rfl⟩
   have HZ2:=Lib.hid hz2.symm
   have f1:=hz1.symm
   have f2:=hz2.symm
   clear hz1 hz2
   have HBB:=Lib.hid (show K.badTS x.nd x.r most s=(!zt || (z1 || z2)) by rw [HBD.out,HZ1.out,HZ2.out,Bool.not_not])
   cases zt
   ·go_upto_region 6 with fail
    refine reg_beh (by kernel_rfl) (by kernel_rfl) ?_
    repeat (go_big_quiet_step ((go_at_call 64;exact Beh.calls (CF _))))
    refine wpQuiet_nil ?_
    rintro w4 ⟨⟨w4,b4⟩,rfl⟩
    have hb42:=bel hb3 (bel hbr b4)
    clear CF q0 e0 e1 e2 e3 e4 e5 f1 f2
    go_wp2_with fail
    go_ret
    exact ⟨by rw [HR2.out,hr.out,HS.out,HBB.out];simp,hb42⟩
   have hsn:s.n≤1000000000:=by
    have h9:=HZT.out
    simp only [T.few] at h9
    have h8:decide (s.n≤6)=true:=by
     cases h7:decide (s.n≤6)
     ·rw [h7] at h9;simp at h9
     ·rfl
    have:=of_decide_eq_true h8
    omega
   have CK:∀ i:Beh wr,Calls Tryz.prog 118 #[.agg #[.int .i64 s.day,.int .i64 s.depot,.int .i64 s.start,.int .i64 s.end_,.int .i64 s.tare,.slice s.A s.n s.c]] i.val fun e w'=>e=.returned (.int .i64 ce)∧Below i.val.heap.size i.val w':=fun i=>by rw [HCE.out];exact check_any s i.val (HI.out.below i.property) hsn
   go_upto_region 6 with fail
   have h5:z1=true∨(z1=false∧z2=true)∨(z1=false∧z2=false):=by cases z1 <;> cases z2 <;> simp
   rcases h5 with rfl | ⟨rfl,rfl⟩ | ⟨rfl,rfl⟩
   all_goals
    refine reg_beh (by kernel_rfl) (by kernel_rfl) ?_
    repeat (go_big_quiet_step ((first | (go_at_call 64;exact Beh.calls (CF _)) | (go_at_call 118;exact Beh.calls (CK _)) | fail)))
    refine wpQuiet_nil ?_
    rintro w4 ⟨⟨w4,b4⟩,rfl⟩
    have hb4:=bel hbr b4
    have hb42:=bel hb3 hb4
    clear CF CK q0 e0 e1 e2 e3 e4 e5 f1 f2
    go_wp2_with fail
    first
     | (go_ret
        exact ⟨by rw [HR2.out,hr.out,HS.out,HBB.out];simp,hb42⟩)
     | (go_roundw
        case rel=>exact ⟨k + 1,by go_num,hlt,by show _=_;rw [hr.out,HS.out,HBB.out];rfl,hb4⟩
        case measure=>simp [intOf];omega)
  ·have HD:=Lib.hid (show x.ss.drop k=[] from List.drop_eq_nil_of_le (by rw [←HSN.out];omega))
   have hd:decide ((k:Int) < (x.sn:Int))=false:=by simp;omega
   have hd2:decide (k < x.sn)=false:=by simp;omega
   have HR3:=Lib.hid (show R=!x.r.any (K.badTQ x.nd) by rw [HR2.out,hr.out,HD.out];rfl)
   have hN3:=hN.below hbr
   clear hr HD HR2 hlt hk
   go_wp2_with fail
   clear hd hd2
   go_loopw [10] (fun v wq=>∃ k:Nat,v=.int .i64 (k:Int)∧k≤x.m∧Hid (x.r.any (K.badTQ x.nd)=(x.r.drop k).any (K.badTQ x.nd))∧Below wr.heap.size wr wq) (fun v _=>x.m - (intOf v).toNat)
   case atStart=>exact ⟨0,rfl,Nat.zero_le _,(by show _=_;rw [List.drop_zero]),Below.refl _ _⟩
   case round =>
    obtain ⟨k,rfl,hk,hr,hbq⟩:=hrel
    have hbw2:=bel hbw hbq
    by_cases hlt:k < x.m
    ·obtain ⟨ad,q,hA,hq,hI,c0,c1,c2,c3,c4,c5,c6⟩:=(hQ.below hbw2).at_ hlt
     have HS:=Lib.hid (drop_any (p:=K.badTQ x.nd) hq)
     have k0:(0:Int)≤(k:Int):=by omega
     have k1:(k:Int) < (x.m:Int):=by omega
     have kd:decide ((k:Int) < (x.m:Int))=true:=decide_eq_true k1
     have kd2:decide (k < x.m)=true:=decide_eq_true hlt
     obtain ⟨ce,hce⟩:∃ ce,ce=T.right q:=⟨_,rfl⟩
     have HBD:=Lib.hid (show K.badTQ x.nd q=(decide (6 < q.n) || (!ce || decide (x.nd≤q.node))) by rw [hce];rfl)
     have q0:=Beh.cell (hN3.below hbq).c0
     have e0:=Beh.cell c0
     have e1:=Beh.cell c1
     have e2:=Beh.cell c2
     have e3:=Beh.cell c3
     have e4:=Beh.cell c4
     have e5:=Beh.cell c5
     have e6:=Beh.cell c6
     have HCE:=Lib.hid hce
     have HI:=Lib.hid hI
     clear hq hI hce c0 c1 c2 c3 c4 c5 c6
     rw [hA]
     clear hA
     by_cases hq6:q.n≤6
     rotate_left
     ·have g1:decide ((6:Int) < (q.n:Int))=true:=by simp;omega
      have g2:decide (6 < q.n)=true:=by simp;omega
      have HBB:=Lib.hid (show K.badTQ x.nd q=true by rw [HBD.out,g2];rfl)
      go_upto_region 11 with fail
      refine reg_beh (by kernel_rfl) (by kernel_rfl) ?_
      repeat (go_big_quiet_step (fail))
      refine wpQuiet_nil ?_
      rintro w4 ⟨⟨w4,b4⟩,rfl⟩
      have hb42:=bel hbw (bel hbq b4)
      clear q0 e0 e1 e2 e3 e4 e5 e6 g1 g2
      go_wp2_with fail
      go_ret
      exact ⟨by rw [HR3.out,hr.out,HS.out,HBB.out];rfl,hb42⟩
     have g1:decide ((6:Int) < (q.n:Int))=false:=by simp;omega
     have g2:decide (6 < q.n)=false:=by simp;omega
     have CK:∀ i:Beh wr,Calls Tryz.prog 119 #[.agg #[.int .i64 q.node,.int .i64 q.room,.int .i64 q.kilos,.int .i64 q.service,.int .i64 q.frm,.int .i64 q.by_,.slice q.A q.n q.c]] i.val fun e w'=>e=.returned (.bool ce)∧Below i.val.heap.size i.val w':=fun i=>by rw [HCE.out];exact tright_any q i.val (HI.out.below i.property) (by omega)
     obtain ⟨z2,hz2⟩:∃ z,z=decide (x.nd≤q.node):=⟨_,rfl⟩
     have HZ2:=Lib.hid hz2.symm
     have f2:=hz2.symm
     clear hz2
     have HBB:=Lib.hid (show K.badTQ x.nd q=(!ce || z2) by rw [HBD.out,g2,HZ2.out];rfl)
     go_upto_region 11 with fail
     have h5:ce=false∨(ce=true∧z2=true)∨(ce=true∧z2=false):=by cases ce <;> cases z2 <;> simp
     rcases h5 with rfl | ⟨rfl,rfl⟩ | ⟨rfl,rfl⟩
     all_goals
      refine reg_beh (by kernel_rfl) (by kernel_rfl) ?_
      repeat (go_big_quiet_step ((go_at_call 119;exact Beh.calls (CK _))))
      refine wpQuiet_nil ?_
      rintro w4 ⟨⟨w4,b4⟩,rfl⟩
      have hb4:=bel hbq b4
      have hb42:=bel hbw hb4
      clear CK q0 e0 e1 e2 e3 e4 e5 e6 f2
      go_wp2_with fail
      first
       | (go_ret
          exact ⟨by rw [HR3.out,hr.out,HS.out,HBB.out];rfl,hb42⟩)
       | (go_roundw
          case rel=>exact ⟨k + 1,by go_num,hlt,by show _=_;rw [hr.out,HS.out,HBB.out];rfl,hb4⟩
          case measure=>simp [intOf];omega)
    ·have HD:=Lib.hid (show x.r.drop k=[] from List.drop_eq_nil_of_le (by rw [←HRN.out];omega))
     have hd:decide ((k:Int) < (x.m:Int))=false:=by simp;omega
     have hd2:decide (k < x.m)=false:=by simp;omega
     go_wp2_with fail
     go_ret
     exact ⟨by rw [HR3.out,hr.out,HD.out];rfl,hbw2⟩
set_option maxRecDepth 100000 in
set_option maxHeartbeats 4000000 in
theorem net113_any (w:World):Calls Tryz.prog 113 #[] w fun e w'=>(∃ A c A2 c2 SA sc,e=.returned (.tuple #[.agg #[.int .i64 2,.slice A 2 c],.slice SA 1 sc])∧Roads w' A 2 K.exL32∧Shifts w' SA 1 [K.topS A2 c2])∧Below w.heap.size w w':=by
 go_enter Tryz.func113,Tryz.ntmps113
 go_wp2_with fail
 obtain ⟨l5,hl5⟩:∃ l5:List Obj,l5=[.cells #[.int .i64 2,.slice (some ⟨w.heap.size + 1,0,none⟩) 2 2] 24,.cells #[.int .i64 0,.int .i64 1,.int .i64 10,.int .i64 (-1),.int .i64 1,.int .i64 0,.int .i64 10,.int .i64 (-1)] 134,
  .cells #[.int .i64 2,.slice (some ⟨w.heap.size + 1,0,none⟩) 2 2] 24,.cells #[.int .i64 1000] 3,.cells #[.int .i64 5,.int .i64 0,.int .i64 0,.int .i64 60,.int .i64 8000,.slice (some ⟨w.heap.size + 1 + 1 + 1,0,none⟩) 1 1] 63]:=⟨_,rfl⟩
 obtain ⟨wz,hwz⟩:∃ wz:World,wz=Als w l5:=⟨_,rfl⟩
 have hb:=Als.below l5 w
 have g:=Als.get l5 w
 rw [←hwz] at hb g
 have e0:=g 0 _ (by rw [hl5];rfl)
 have e1:=g 1 _ (by rw [hl5];rfl)
 have e3:=g 3 _ (by rw [hl5];rfl)
 have e4:=g 4 _ (by rw [hl5];rfl)
 rw [hl5] at hwz
 simp only [Als] at hwz
 rw [←hwz]
 have c0:wz.cell? ⟨w.heap.size,0,none⟩=some (.int .i64 2):=blk_cell e0 0 _ rfl
 have c1:wz.cell? ⟨w.heap.size,1,none⟩=some (.slice (some ⟨w.heap.size + 1,0,none⟩) 2 2):=blk_cell e0 1 _ rfl
 refine bodyPost_ret_by (v:=.tuple #[.agg #[.int .i64 2,.slice (some ⟨w.heap.size + 1,0,none⟩) 2 2],.slice (some ⟨w.heap.size + 1 + 1 + 1 + 1,0,none⟩) 1 1]) (by rw [results_cell_tmp rfl];simp [go_sem,c0,c1]) rfl ?_
 exact ⟨⟨some ⟨w.heap.size + 1,0,none⟩,2,some ⟨w.heap.size + 1 + 1 + 1,0,none⟩,1,some ⟨w.heap.size + 1 + 1 + 1 + 1,0,none⟩,1,rfl,⟨rfl,Rd.of_block (cs:=(K.exL32.flatMap roadCells).toArray) e1 4 2 rfl⟩,⟨⟨rfl,Rd.of_block (cs:=([K.topS (some ⟨w.heap.size + 1 + 1 + 1,0,none⟩) 1].flatMap S.cells).toArray) e4 6 1 rfl⟩,fun s hs=>by rw [List.mem_singleton.1 hs];exact ⟨rfl,Rd.of_block (cs:=(intCells [1000]).toArray) e3 1 1 rfl⟩⟩⟩,hb⟩
theorem eql45 (a:Option Addr) (l c:Nat) (w:World):(binOp .eql 45 (.slice a l c) (.slice none 0 0)).run Tryz.prog w=.ok (.bool a.isNone) w:=Go.run_eql_slice_nil w 45 158 a l c Tryz.underlying45
def Fresh (B:Nat) (A:Option Addr) (n:Nat):Prop:=0 < n→∀ ad,A=some ad→B≤ad.block
theorem fresh_own {w:World} {base:Nat} {e:TypeId} {size n m c:Nat} {A:Option Addr} {xs:List Value} (h:w.ownsRow base e size (.slice A n c) m xs):Fresh base A n:=fun _ ad e=>by
 subst e
 obtain ⟨-,-,-,-,h3⟩:=own_form h
 exact (h3 _ rfl).1
set_option maxHeartbeats 2000000 in
theorem clone_wins (A:Option Addr) (n c:Nat) (l:List (Int × Int)) (w:World) (hl:Wins w A n l) (hn:n≤1000000) :
  Calls Tryz.prog 196 #[.slice A n c] w fun e w'=>(∃ A' c',e=.returned (.slice A' n c')∧Wins w' A' n l∧Fresh w.heap.size A' n)∧Below w.heap.size w w':=by
 obtain ⟨i0,hi,hz0,hz1,hz2⟩:=info_parts Tryz.info158
 have heq:=eql45
 cases A with
 | none =>
  go_enter Tryz.func196,Tryz.ntmps196
  go_wp2_with fail
  go_ret
  have h0:n=0:=by
   cases n with
   | zero=>rfl
   | succ n=>obtain ⟨ad,e,_⟩:=hl.2.2 (by omega);cases e
  subst h0
  have hl0:l=[]:=List.length_eq_zero_iff.1 hl.1.symm
  subst hl0
  exact ⟨⟨none,0,rfl,⟨rfl,rfl,fun h=>absurd h (by omega)⟩,fun h=>absurd h (by omega)⟩,Below.refl _ _⟩
 | some ad =>
  have hlit:(w.alloc (.cells #[] 158)).ownsRow w.heap.size 158 2 (.slice (some ⟨w.heap.size,0,none⟩) 0 0) 0 []:=World.ownsRow_lit w #[] 0 (Nat.le_refl _) (by simp only [maxLen];omega) (by simp)
  have hb0:=(Below.refl w.heap.size w).alloc (Nat.le_refl _) (.cells #[] 158)
  go_enter Tryz.func196,Tryz.ntmps196
  go_wp2_with (at_builtin;refine wp_append_rd rfl (.tmp 5) (.tmp 6) 45 rfl w.heap.size 158 i0 (.agg #[.int .i64 0,.int .i64 0]) 2 16 Tryz.underlying45 hi hz0 hz1 hz2 rfl (by decide) _ 0 _ rfl hlit (some ad) n c (winCells l) rfl (hl.below hb0).2 (winCells_one l) (by simp only [maxLen];omega) (by omega) (by first | (simp;done) | (simp;omega)) ?_;intro v' w4 hown4 hgrow4 hat4)
  rw [Nat.zero_add] at hown4
  have hb4:Below w.heap.size w w4:=below_own hb0 (Nat.le_refl _) hgrow4 (fun g h=>(hlit.lt g h).1)
  clear hgrow4 hat4
  obtain ⟨A',c',rfl,hR,-⟩:=own_form hown4
  have hF:=fresh_own hown4
  rw [List.nil_append] at hR
  go_wp2_with fail
  go_ret
  exact ⟨⟨_,_,rfl,⟨hl.1,hR⟩,hF⟩,hb4⟩
def Set7 (w:World) (g:Nat) (y0 y1 y2 y3 y4 y5 y6:Value):World:=((((((w.setCell ⟨g,0,none⟩ y0).setCell ⟨g,1,none⟩ y1).setCell ⟨g,2,none⟩ y2).setCell ⟨g,3,none⟩ y3).setCell ⟨g,4,none⟩ y4).setCell ⟨g,5,none⟩ y5).setCell ⟨g,6,none⟩ y6
theorem set7_blk {w:World} {g:Nat} {x0 x1 x2 x3 x4 x5 x6:Value} {t:TypeId} (h:w.heap[g]? = some (.cells #[x0,x1,x2,x3,x4,x5,x6] t (0,0))) (y0 y1 y2 y3 y4 y5 y6:Value):(Set7 w g y0 y1 y2 y3 y4 y5 y6).heap[g]? = some (.cells #[y0,y1,y2,y3,y4,y5,y6] t (0,0)):=by
 have c0:=blk_set h 0 y0
 have c1:=blk_set c0 1 y1
 have c2:=blk_set c1 2 y2
 have c3:=blk_set c2 3 y3
 have c4:=blk_set c3 4 y4
 have c5:=blk_set c4 5 y5
 have c6:=blk_set c5 6 y6
 have e:((((((((#[x0,x1,x2,x3,x4,x5,x6]:Array Value).setIfInBounds 0 y0).setIfInBounds 1 y1).setIfInBounds 2 y2).setIfInBounds 3 y3).setIfInBounds 4 y4).setIfInBounds 5 y5).setIfInBounds 6 y6)=#[y0,y1,y2,y3,y4,y5,y6]:=by simp only [List.setIfInBounds_toArray,List.set_cons_zero,List.set_cons_succ]
 rw [e] at c6
 exact c6
theorem set7_below {B:Nat} {a w:World} {g:Nat} (h:Below B a w) (hg:B≤g) (y0 y1 y2 y3 y4 y5 y6:Value):Below B a (Set7 w g y0 y1 y2 y3 y4 y5 y6) :=
 ((((((h.setCell (p:=⟨g,0,none⟩) hg y0).setCell (p:=⟨g,1,none⟩) hg y1).setCell (p:=⟨g,2,none⟩) hg y2).setCell (p:=⟨g,3,none⟩) hg y3).setCell (p:=⟨g,4,none⟩) hg y4).setCell (p:=⟨g,5,none⟩) hg y5).setCell (p:=⟨g,6,none⟩) hg y6
set_option maxRecDepth 100000 in
set_option maxHeartbeats 4000000 in
theorem copied_any (q:Q) (w:World) (hq:Wins w q.A q.n q.l) (hn:q.n≤1000000) :
  Calls Tryz.prog 148 #[.agg #[.int .i64 q.node,.int .i64 q.room,.int .i64 q.kilos,.int .i64 q.service,.int .i64 q.frm,.int .i64 q.by_,.slice q.A q.n q.c]] w fun e w'=>(∃ A' c',e=.returned (.agg #[.int .i64 q.node,.int .i64 q.room,.int .i64 q.kilos,.int .i64 q.service,.int .i64 q.frm,.int .i64 q.by_,.slice A' q.n c'])∧Wins w' A' q.n q.l∧Fresh w.heap.size A' q.n)∧Below w.heap.size w w':=by
 obtain ⟨g,hg⟩:∃ g,g=w.heap.size:=⟨_,rfl⟩
 obtain ⟨w0,hw0⟩:∃ w0:World,w0=w.alloc (.cells #[.int .i64 q.node,.int .i64 q.room,.int .i64 q.kilos,.int .i64 q.service,.int .i64 q.frm,.int .i64 q.by_,.slice q.A q.n q.c] 47):=⟨_,rfl⟩
 have b0:Below w.heap.size w w0:=by rw [hw0];exact (Below.refl _ _).alloc (Nat.le_refl _) _
 have z0:w0.heap.size=w.heap.size + 1:=by rw [hw0];exact World.size_alloc _ _
 have hB0:QBlk w0 g q:=by rw [hw0,hg];exact QBlk.new _ _
 obtain ⟨w1,hw1⟩:∃ w1:World,w1=w0.alloc (.cells #[.int .i64 0,.int .i64 0,.int .i64 0,.int .i64 0,.int .i64 0,.int .i64 0,.slice none 0 0] 47):=⟨_,rfl⟩
 have b1:Below w0.heap.size w0 w1:=by rw [hw1];exact (Below.refl _ _).alloc (Nat.le_refl _) _
 have hB2:w1.heap[g + 1]? = some (.cells #[.int .i64 0,.int .i64 0,.int .i64 0,.int .i64 0,.int .i64 0,.int .i64 0,.slice none 0 0] 47 (0,0)):=by rw [hw1,hg,←z0];exact heap_alloc_new _ _
 have hB1:=hB0.below b1
 have hb1:=bel b0 b1
 have c6:=hB1.cells.2.2.2.2.2.2
 have hgg:w.heap.size≤g:=by omega
 have hg1s:g + 1 < w1.heap.size:=(Array.getElem?_eq_some_iff.1 hB2).1
 rw [hw1,hw0,hg] at c6
 go_enter Tryz.func148,Tryz.ntmps148
 go_wp2_with fail
 rw [←hw0,←hw1,←hg]
 clear hw1 hw0 hg hB0 z0 b0 b1 c6
 refine (clone_wins q.A q.n q.c q.l w1 (hq.below hb1) hn).mono ?_
 rintro e w2 ⟨⟨A',c',rfl,hW,hF⟩,b2⟩
 have hb2:=bel hb1 b2
 have hsz:=hb1.size
 have hB1:=hB1.below b2
 have hB2:=blk_below b2 hB2
 obtain ⟨c0,c1,c2,c3,c4,c5,c6⟩:=hB1.cells
 have f1:=blk_free hB1
 have f2:=blk_free hB2
 have e0:=blk_cell hB2 0 _ rfl
 have e1:=blk_cell hB2 1 _ rfl
 have e2:=blk_cell hB2 2 _ rfl
 have e3:=blk_cell hB2 3 _ rfl
 have e4:=blk_cell hB2 4 _ rfl
 have e5:=blk_cell hB2 5 _ rfl
 have e6:=blk_cell hB2 6 _ rfl
 have hwl:∀ (h0:0 < q.n) ad,A'=some ad→w.heap.size≤ad.block:=fun h0 ad e=>Nat.le_trans hsz (hF h0 ad e)
 have hgs:g + 1 < w1.heap.size:=hg1s
 have HNE:=Lib.hid (show 0 < q.n→∀ ad,A'=some ad→ad.block ≠ g∧ad.block ≠ g + 1 from fun h0 ad e=>by
  have h1:=hF h0 ad e
  omega)
 go_wp2_with fail
 obtain ⟨wy,hwy⟩:∃ wy,wy=w2.setCell ⟨g,6,none⟩ (.slice A' q.n c'):=⟨_,rfl⟩
 obtain ⟨wz,hwz⟩:∃ wz,wz=Set7 wy (g + 1) (.int .i64 q.node) (.int .i64 q.room) (.int .i64 q.kilos) (.int .i64 q.service) (.int .i64 q.frm) (.int .i64 q.by_) (.slice A' q.n c'):=⟨_,rfl⟩
 have hY:wy.heap[g + 1]? = some (.cells #[.int .i64 0,.int .i64 0,.int .i64 0,.int .i64 0,.int .i64 0,.int .i64 0,.slice none 0 0] 47 (0,0)):=by
  rw [hwy]
  exact (Sets.other [(⟨g,6,none⟩,.slice A' q.n c')] w2 (g + 1) (fun p hp=>by rw [List.mem_singleton.1 hp];simp)).trans hB2
 have hZ:wz.heap[g + 1]? = some (.cells #[.int .i64 q.node,.int .i64 q.room,.int .i64 q.kilos,.int .i64 q.service,.int .i64 q.frm,.int .i64 q.by_,.slice A' q.n c'] 47 (0,0)):=by
  rw [hwz]
  exact set7_blk hY _ _ _ _ _ _ _
 have bz:Below w.heap.size w wz:=by
  rw [hwz,hwy]
  exact set7_below (hb2.setCell (p:=⟨g,6,none⟩) hgg _) (by omega) _ _ _ _ _ _ _
 have hWz:Wins wz A' q.n q.l:=by
  refine ⟨hW.1,hW.2.1,fun h0=>?_⟩
  obtain ⟨ad,e,hc⟩:=hW.2.2 h0
  obtain ⟨n1,n2⟩:=HNE.out h0 ad e
  refine ⟨ad,e,fun k u hu=>?_⟩
  have h9:wz.heap[(ad.add k).block]? = w2.heap[(ad.add k).block]?:=by
   rw [hwz,hwy]
   refine Sets.other [(⟨g,6,none⟩,.slice A' q.n c'),(⟨g + 1,0,none⟩,.int .i64 q.node),(⟨g + 1,1,none⟩,.int .i64 q.room),(⟨g + 1,2,none⟩,.int .i64 q.kilos),(⟨g + 1,3,none⟩,.int .i64 q.service),(⟨g + 1,4,none⟩,.int .i64 q.frm),(⟨g + 1,5,none⟩,.int .i64 q.by_),(⟨g + 1,6,none⟩,.slice A' q.n c')] w2 _ (fun p hp=>?_)
   simp only [List.mem_cons,List.not_mem_nil,or_false] at hp
   rw [add_block]
   rcases hp with rfl | rfl | rfl | rfl | rfl | rfl | rfl | rfl
   ·exact fun e=>n1 e.symm
   all_goals exact fun e=>n2 e.symm
  exact (World.cell?_of_block h9).trans (hc k u hu)
 unfold Set7 at hwz
 rw [←hwy,←hwz]
 refine bodyPost_ret_by (v:=.agg #[.int .i64 q.node,.int .i64 q.room,.int .i64 q.kilos,.int .i64 q.service,.int .i64 q.frm,.int .i64 q.by_,.slice A' q.n c']) (results_cell_row rfl _ wz (g + 1) 47 _ (0,0) _ rfl hZ Tryz.underlying47 rfl (by kernel_rfl)) rfl ?_
 exact ⟨⟨A',c',rfl,hWz,fun h0 ad e=>hwl h0 ad e⟩,bz⟩
theorem Wins.lt_of {w:World} {A:Option Addr} {n:Nat} {l:List (Int × Int)} (h:Wins w A n l) (h0:0 < n) {ad:Addr} (e:A=some ad):ad.block < w.heap.size:=by
 obtain ⟨ad',o,c,e',-,hc,-⟩:=h.at_ h0
 rw [e] at e'
 injection e' with e'
 subst e'
 have:=cell_lt hc
 rwa [add_block] at this
theorem Wins.grow {w w':World} {A:Option Addr} {n:Nat} {l:List (Int × Int)} {r:Option Nat} (h:Wins w A n l) (hg:w.grownBy w' r) (hne:0 < n→∀ ad,A=some ad→some ad.block ≠ r):Wins w' A n l:=by
 refine ⟨h.1,h.2.1,fun h0=>?_⟩
 obtain ⟨ad,e,hc⟩:=h.2.2 h0
 refine ⟨ad,e,fun j u hu=>?_⟩
 have c:=hc j u hu
 exact (World.cell?_of_block (hg.block _ (cell_lt c) (by rw [add_block];exact hne h0 ad e))).trans c
def QOk (w:World) (v:Value) (L:List Q):Prop:=∀ q ∈ L,Wins w q.A q.n q.l∧OffRow q.A q.n v
theorem QOk.below {w w':World} {v:Value} {L:List Q} (h:QOk w v L) (hb:Below w.heap.size w w'):QOk w' v L:=fun q hq=>⟨(h q hq).1.below hb,(h q hq).2⟩
theorem QOk.snoc {w w':World} {v v':Value} {L:List Q} (h:QOk w v L) {q:Q} (hq:Wins w q.A q.n q.l) (ho:OffRow q.A q.n v) (hg:w.grownBy w' v.ownBlock) (ha:v'.ownBlock=v.ownBlock∨v'.ownBlock=some w.heap.size):QOk w' v' (L ++ [q]):=fun y hy=>by
 have h1:Wins w y.A y.n y.l∧OffRow y.A y.n v:=by
  rcases List.mem_append.1 hy with hy | hy
  ·exact h y hy
  ·rw [List.mem_singleton.1 hy];exact ⟨hq,ho⟩
 refine ⟨h1.1.grow hg (fun h0 ad e e2=>h1.2 h0 ad e e2.symm),fun h0 ad e e2=>?_⟩
 rcases ha with e3 | e3
 ·rw [e3] at e2;exact h1.2 h0 ad e e2
 ·rw [e3] at e2
  injection e2 with e2
  have:=h1.1.lt_of h0 e
  omega
theorem own_cap33 {w:World} {base:Nat} {e:TypeId} {size n n' c:Nat} {A:Option Addr} {xs:List Value} (h:w.ownsRow base e size (.slice A n' c) n xs):n≤c:=by
 obtain ⟨-,⟨e,e0⟩ | ⟨g',cap,cur,e,-,-,h9,-⟩⟩:=h
 ·rw [e0];exact Nat.zero_le _
 ·injection e with e1 e2 e3
  rw [e3];exact h9
def NQ (B:Nat) (L:List Q):Prop:=∀ q ∈ L,0 < q.n→∀ ad,q.A=some ad→B≤ad.block
theorem NQ.snoc {B:Nat} {L:List Q} (h:NQ B L) {q:Q} (hq:0 < q.n→∀ ad,q.A=some ad→B≤ad.block):NQ B (L ++ [q]):=fun y hy=>by
 rcases List.mem_append.1 hy with hy | hy
 ·exact h y hy
 ·rw [List.mem_singleton.1 hy];exact hq
def RetWith (w w':World) (m:Nat) (M:List Q) (e:Ending):Prop :=
 (∃ A k L,e=.returned (.slice A m k)∧Reqs w' A m L∧L.map Q.bare=M.map Q.bare∧m≤k∧(∀ ad,A=some ad→w.heap.size≤ad.block)∧NQ w.heap.size L)∧Below w.heap.size w w'
theorem same_n {w:World} {A:Option Addr} {n:Nat} {L M:List Q} (h:Reqs w A n L) (e:L.map Q.bare=M.map Q.bare) {N:Nat} (hM:∀ q ∈ M,q.l.length≤N):∀ q ∈ L,q.n≤N:=fun q hq=>by
 have h1:=(h.2.2 q hq).1
 have h2:q.bare ∈ M.map Q.bare:=by rw [←e];exact List.mem_map.2 ⟨q,hq,rfl⟩
 obtain ⟨q',h3,h4⟩:=List.mem_map.1 h2
 have h5:q'.l=q.l:=show q'.bare.l=q.bare.l by rw [h4]
 have:=hM q' h3
 rw [h5] at this
 omega
set_option maxRecDepth 100000 in
set_option maxHeartbeats 8000000 in
theorem with_any (B:Option Addr) (n c:Nat) (r:List Q) (V:Option Addr) (vn vc:Nat) (v:List Int) (x:Q) (w:World) (hR:Reqs w B n r) (hV:Ints w V vn v) (hv:∀ i ∈ v,0≤i∧i < (r.length:Int)) (hX:Wins w x.A x.n x.l)
  (hrn:∀ q ∈ r,q.n≤1000000) (hxn:x.n≤1000000) (hvn:vn≤1000) :
  Calls Tryz.prog 95 #[.slice B n c,.slice V vn vc,.agg #[.int .i64 x.node,.int .i64 x.room,.int .i64 x.kilos,.int .i64 x.service,.int .i64 x.frm,.int .i64 x.by_,.slice x.A x.n x.c]] w fun e w'=>RetWith w w' (vn + 1) (K.pick33 r v x) e:=by
 obtain ⟨g,hg⟩:∃ g,g=w.heap.size:=⟨_,rfl⟩
 obtain ⟨w1,hw1⟩:∃ w1:World,w1=w.alloc (.cells #[.int .i64 x.node,.int .i64 x.room,.int .i64 x.kilos,.int .i64 x.service,.int .i64 x.frm,.int .i64 x.by_,.slice x.A x.n x.c] 47):=⟨_,rfl⟩
 have b1:Below w.heap.size w w1:=by rw [hw1];exact (Below.refl _ _).alloc (Nat.le_refl _) _
 have hB1:QBlk w1 g x:=by rw [hw1,hg];exact QBlk.new _ _
 have HVN:=Lib.hid hV.1
 have HRN:=Lib.hid hR.1
 go_enter Tryz.func95,Tryz.ntmps95
 go_wp2_with fail
 rw [←hw1,←hg]
 clear hw1 hg
 have hown0:w1.ownsRow w1.heap.size 47 7 (.slice none 0 0) 0 (([]:List Q).flatMap Q.cells):=World.ownsRow_nil _ _ _ _
 go_loopw [7,12] (fun v7 v12 wr=>∃ (k:Nat) (L:List Q),v12=.int .i64 k∧k≤vn∧L.length=k∧wr.ownsRow w1.heap.size 47 7 v7 k (L.flatMap Q.cells)∧QOk wr v7 L∧NQ w.heap.size L∧Hid (L.map Q.bare=((v.take k).map (K.req r)).map Q.bare)∧Below w1.heap.size w1 wr) (fun _ v12 _=>vn - (intOf v12).toNat)
 case atStart=>exact ⟨0,[],rfl,Nat.zero_le _,rfl,hown0,fun q h=>(by cases h),fun q h=>(by cases h),rfl,Below.refl _ _⟩
 case round =>
  clear hown0
  obtain ⟨k,L,rfl,hk,hLk,hown,hok,hnq,hLM,hbr⟩:=hrel
  by_cases hlt:k < vn
  ·obtain ⟨adv,i,hVa,hvi,ci⟩:=(hV.below (bel b1 hbr)).at_ hlt
   obtain ⟨j,rfl⟩:∃ j:Nat,i=(j:Int):=⟨i.toNat,by have:=(hv i (List.mem_of_getElem? hvi)).1;omega⟩
   have hjn:j < n:=by have:=(hv _ (List.mem_of_getElem? hvi)).2;have:=HRN.out;omega
   have j0:(0:Int)≤(j:Int):=by omega
   have j1:(j:Int) < (n:Int):=by omega
   have k0:(0:Int)≤(k:Int):=by omega
   have k1:(k:Int) < (vn:Int):=by omega
   obtain ⟨adq,q,hBa,hq,hW,c0,c1,c2,c3,c4,c5,c6⟩:=(hR.below (bel b1 hbr)).at_ hjn
   have hqn:=hrn q (List.mem_of_getElem? hq)
   rw [hVa,hBa]
   go_wp2_with fail
   refine (copied_any q wr hW hqn).mono ?_
   rintro e w2 ⟨⟨A',c',rfl,hW2,hF2⟩,b2⟩
   obtain ⟨g2,hg2⟩:∃ g2,g2=w2.heap.size:=⟨_,rfl⟩
   obtain ⟨w3,hw3⟩:∃ w3:World,w3=w2.alloc (.cells #[.int .i64 q.node,.int .i64 q.room,.int .i64 q.kilos,.int .i64 q.service,.int .i64 q.frm,.int .i64 q.by_,.slice A' q.n c'] 47):=⟨_,rfl⟩
   have b3:Below w2.heap.size w2 w3:=by rw [hw3];exact (Below.refl _ _).alloc (Nat.le_refl _) _
   have hB3:w3.heap[g2]? = some (.cells #[.int .i64 q.node,.int .i64 q.room,.int .i64 q.kilos,.int .i64 q.service,.int .i64 q.frm,.int .i64 q.by_,.slice A' q.n c'] 47 (0,0)):=by rw [hw3,hg2];exact heap_alloc_new _ _
   have hoff:OffRow A' q.n u7:=fun h0 ad e e2=>by
    have h1:=hF2 h0 ad e
    have h2:=(hown.lt _ e2).2
    omega
   have hnq6:NQ w.heap.size (L ++ [(⟨q.node,q.room,q.kilos,q.service,q.frm,q.by_,A',q.n,c',q.l⟩:Q)]):=hnq.snoc (fun h0 ad e=>by have h1:=hF2 h0 ad e;have h2:=b1.size;have h3:=hbr.size;omega)
   have b23:=bel b2 b3
   have hown3:=own_below hown b23
   have hok3:=hok.below b23
   have hW3:=hW2.below b3
   have hb3:=bel hbr b23
   have hbs:=hb3.size
   have hk9:k≤1000000:=by omega
   have HNX:=Lib.hid (show (L ++ [(⟨q.node,q.room,q.kilos,q.service,q.frm,q.by_,A',q.n,c',q.l⟩:Q)]).map Q.bare=((v.take (k + 1)).map (K.req r)).map Q.bare by
    rw [take_snoc hvi,List.map_append,List.map_append,List.map_append,hLM.out,List.map_singleton,List.map_singleton,List.map_singleton,K.req_at hq]
    rfl)
   clear c0 c1 c2 c3 c4 c5 c6 ci hvi hq hW hW2 hF2 hown hok hLM hbr b2 b3 b23 hVa hBa
   go_wp2_with (first
    | (at_builtin;rw [←hw3,←hg2];refine app_req rfl _ _ rfl w1.heap.size _ k L rfl hown3 g2 ⟨q.node,q.room,q.kilos,q.service,q.frm,q.by_,A',q.n,c',q.l⟩ rfl hB3 hk9 hbs ?_;intro v6 w6 hown6 hgrow6 hat6)
    | fail)
   have hok6:=hok3.snoc (q:=⟨q.node,q.room,q.kilos,q.service,q.frm,q.by_,A',q.n,c',q.l⟩) hW3 hoff hgrow6 hat6
   have hb6:Below w1.heap.size w1 w6:=below_own2 hb3 hgrow6 (fun g e=>(hown3.lt g e).1)
   clear hok3 hown3 hgrow6 hat6 hB3 hw3
   go_roundw
   case rel=>(go_light;exact ⟨k + 1,L ++ [(⟨q.node,q.room,q.kilos,q.service,q.frm,q.by_,A',q.n,c',q.l⟩:Q)],by go_num,hlt,by rw [List.length_append,hLk];rfl,hown6,hok6,hnq6,HNX.out,hb6⟩)
   case measure=>(go_light;simp [intOf];omega)
  ·have hd:decide ((k:Int) < (vn:Int))=false:=by simp;omega
   have hd2:decide (k < vn)=false:=by simp;omega
   obtain ⟨c0,c1,c2,c3,c4,c5,c6⟩:=(hB1.below hbr).cells
   obtain rfl:k=vn:=by omega
   go_wp2_with fail
   refine (copied_any x wr (hX.below (bel b1 hbr)) hxn).mono ?_
   rintro e w2 ⟨⟨A',c',rfl,hW2,hF2⟩,b2⟩
   obtain ⟨g2,hg2⟩:∃ g2,g2=w2.heap.size:=⟨_,rfl⟩
   obtain ⟨w3,hw3⟩:∃ w3:World,w3=w2.alloc (.cells #[.int .i64 x.node,.int .i64 x.room,.int .i64 x.kilos,.int .i64 x.service,.int .i64 x.frm,.int .i64 x.by_,.slice A' x.n c'] 47):=⟨_,rfl⟩
   have b3:Below w2.heap.size w2 w3:=by rw [hw3];exact (Below.refl _ _).alloc (Nat.le_refl _) _
   have hB3:w3.heap[g2]? = some (.cells #[.int .i64 x.node,.int .i64 x.room,.int .i64 x.kilos,.int .i64 x.service,.int .i64 x.frm,.int .i64 x.by_,.slice A' x.n c'] 47 (0,0)):=by rw [hw3,hg2];exact heap_alloc_new _ _
   have hoff:OffRow A' x.n u7:=fun h0 ad e e2=>by
    have h1:=hF2 h0 ad e
    have h2:=(hown.lt _ e2).2
    omega
   have hnq6:NQ w.heap.size (L ++ [(⟨x.node,x.room,x.kilos,x.service,x.frm,x.by_,A',x.n,c',x.l⟩:Q)]):=hnq.snoc (fun h0 ad e=>by have h1:=hF2 h0 ad e;have h2:=b1.size;have h3:=hbr.size;omega)
   have b23:=bel b2 b3
   have hown3:=own_below hown b23
   have hok3:=hok.below b23
   have hW3:=hW2.below b3
   have hb3:=bel hbr b23
   have hbs:=hb3.size
   have hk9:k≤1000000:=by omega
   have HNX:=Lib.hid (show (L ++ [(⟨x.node,x.room,x.kilos,x.service,x.frm,x.by_,A',x.n,c',x.l⟩:Q)]).map Q.bare=(K.pick33 r v x).map Q.bare by
    unfold K.pick33
    rw [List.map_append,List.map_append,hLM.out,List.take_of_length_le (by have:=HVN.out;omega)]
    rfl)
   clear c0 c1 c2 c3 c4 c5 c6 hW2 hF2 hown hok hLM hbr b2 b3 b23 hd hd2
   go_wp2_with (first
    | (at_builtin;rw [←hw3,←hg2];refine app_req rfl _ _ rfl w1.heap.size _ k L rfl hown3 g2 ⟨x.node,x.room,x.kilos,x.service,x.frm,x.by_,A',x.n,c',x.l⟩ rfl hB3 hk9 hbs ?_;intro v6 w6 hown6 hgrow6 hat6)
    | fail)
   have hok6:=hok3.snoc (q:=⟨x.node,x.room,x.kilos,x.service,x.frm,x.by_,A',x.n,c',x.l⟩) hW3 hoff hgrow6 hat6
   have hb6:Below w1.heap.size w1 w6:=below_own2 hb3 hgrow6 (fun g e=>(hown3.lt g e).1)
   have hcap:=hown6
   obtain ⟨A9,c9,rfl,hRd,hF9⟩:=own_form hown6
   clear hok3 hown3 hgrow6 hat6 hB3 hw3
   go_wp2_with fail
   go_ret
   exact ⟨⟨A9,c9,_,rfl,⟨by rw [List.length_append,hLk];rfl,by rw [reqCells_flat];exact hRd,fun q hq=>(hok6 q hq).1⟩,HNX.out,own_cap33 hcap,fun ad e=>Nat.le_trans b1.size (hF9 _ (by rw [e];rfl)).1,hnq6⟩,bel b1 hb6⟩
def upTo (n k:Nat):List Int:=K.iota k ++ List.replicate (n - k) 0
theorem upTo_zero (n:Nat):upTo n 0=List.replicate n 0:=by simp [upTo,K.iota]
theorem upTo_all (n:Nat):upTo n n=K.iota n:=by simp [upTo]
theorem upTo_len {n k:Nat} (h:k≤n):(upTo n k).length=n:=by simp [upTo,K.iota];omega
theorem upTo_set {n k:Nat} (h:k < n):(upTo n k).set k (k:Int)=upTo n (k + 1):=by
 have h1:(K.iota k).length=k:=by simp [K.iota]
 unfold upTo
 rw [List.set_append_right _ _ (by omega),h1,Nat.sub_self,show n - k=(n - (k + 1)) + 1 by omega,List.replicate_succ,List.set_cons_zero]
 unfold K.iota
 rw [List.range_succ,List.map_append,List.append_assoc]
 rfl
set_option maxRecDepth 100000 in
set_option maxHeartbeats 4000000 in
theorem numbers_any (n:Nat) (w:World) (hn:n≤1000):Calls Tryz.prog 96 #[.int .i64 n] w fun e w'=>(∃ A c,e=.returned (.slice A n c)∧Ints w' A n (K.iota n))∧Below w.heap.size w w':=by
 have hmk:=make_ints n (by omega)
 obtain ⟨h,hh⟩:∃ h,h=w.heap.size:=⟨_,rfl⟩
 obtain ⟨w1,hw1⟩:∃ w1:World,w1=w.alloc (.cells (intCells (List.replicate n 0)).toArray 3):=⟨_,rfl⟩
 have b1:Below w.heap.size w w1:=by rw [hw1];exact (Below.refl _ _).alloc (Nat.le_refl _) _
 have hI1:IBlk w1 h (upTo n 0):=by rw [hw1,hh,upTo_zero];exact heap_alloc_new _ _
 have hwh:w.heap.size≤h:=by omega
 go_enter Tryz.func96,Tryz.ntmps96
 go_wp2_with fail
 rw [←hw1,←hh]
 clear hw1 hh hmk
 go_loopw [9] (fun v9 wr=>∃ k:Nat,v9=.int .i64 k∧k≤n∧IBlk wr h (upTo n k)∧Below w.heap.size w wr) (fun v9 _=>n - (intOf v9).toNat)
 case atStart=>exact ⟨0,rfl,Nat.zero_le _,hI1,b1⟩
 case round =>
  clear hI1 b1
  obtain ⟨k,rfl,hk,hI,hbr⟩:=hrel
  by_cases hlt:k < n
  ·have k0:(0:Int)≤(k:Int):=by omega
   have k1:(k:Int) < (n:Int):=by omega
   obtain ⟨x,hx⟩:∃ x,(upTo n k)[k]? = some x:=⟨_,List.getElem?_eq_getElem (by rw [upTo_len hk];exact hlt)⟩
   have c0:=hI.cell hx
   have f0:=hI.free k
   have hI2:IBlk (wr.setCell ⟨h,k,none⟩ (.int .i64 (k:Int))) h (upTo n (k + 1)):=by rw [←upTo_set hlt];exact hI.set k k
   have hb2:Below w.heap.size w (wr.setCell ⟨h,k,none⟩ (.int .i64 (k:Int))):=hbr.setCell (p:=⟨h,k,none⟩) hwh _
   go_wp2_with fail
   go_roundw
   case rel=>(go_light;exact ⟨k + 1,by go_num,hlt,hI2,hb2⟩)
   case measure=>(go_light;simp [intOf];omega)
  ·obtain rfl:k=n:=by omega
   have hd:decide ((k:Int) < (k:Int))=false:=by simp
   have hd2:decide (k < k)=false:=by simp
   have hz:=hI.ints
   rw [upTo_len (Nat.le_refl _),upTo_all] at hz
   go_wp2_with fail
   go_ret
   exact ⟨⟨_,_,rfl,hz⟩,hbr⟩
set_option maxRecDepth 100000 in
set_option maxHeartbeats 4000000 in
theorem fits94_any (nd:Int) (A:Option Addr) (n c:Nat) (x:Q) (w:World) (hX:Wins w x.A x.n x.l) (hxn:x.n≤1000000000) :
  Calls Tryz.prog 94 #[.agg #[.int .i64 nd,.slice A n c],.agg #[.int .i64 x.node,.int .i64 x.room,.int .i64 x.kilos,.int .i64 x.service,.int .i64 x.frm,.int .i64 x.by_,.slice x.A x.n x.c]] w fun e w'=>e=.returned (.bool (K.fits33 nd x))∧Below w.heap.size w w':=by
 obtain ⟨g,hg⟩:∃ g,g=w.heap.size:=⟨_,rfl⟩
 obtain ⟨w0,hw0⟩:∃ w0:World,w0=w.alloc (.cells #[.int .i64 nd,.slice A n c] 24):=⟨_,rfl⟩
 have b0:Below w.heap.size w w0:=by rw [hw0];exact (Below.refl _ _).alloc (Nat.le_refl _) _
 have z0:w0.heap.size=g + 1:=by rw [hw0,hg];exact World.size_alloc _ _
 have hN0:Net w0 g nd A n c:=by rw [hw0,hg];exact Net.new _ _ _ _ _
 obtain ⟨w1,hw1⟩:∃ w1:World,w1=w0.alloc (.cells #[.int .i64 x.node,.int .i64 x.room,.int .i64 x.kilos,.int .i64 x.service,.int .i64 x.frm,.int .i64 x.by_,.slice x.A x.n x.c] 47):=⟨_,rfl⟩
 have b1:Below w0.heap.size w0 w1:=by rw [hw1];exact (Below.refl _ _).alloc (Nat.le_refl _) _
 have hB1:QBlk w1 (g + 1) x:=by rw [hw1,←z0];exact QBlk.new _ _
 have hN1:=hN0.below b1
 have hb1:=bel b0 b1
 obtain ⟨c0,c1,c2,c3,c4,c5,c6⟩:=hB1.cells
 have CR:=tright_any x w1 (hX.below hb1) hxn
 obtain ⟨z,hz⟩:∃ z,z=T.right x:=⟨_,rfl⟩
 rw [←hz] at CR
 have HZ:=Lib.hid hz
 go_enter Tryz.func94,Tryz.ntmps94
 rw [hw1,hw0,hg] at c0 c1 c2 c3 c4 c5 c6
 go_wp2_with fail
 rw [←hw0,←hw1]
 refine CR.mono ?_
 rintro e w2 ⟨rfl,b2⟩
 clear hz CR c0 c1 c2 c3 c4 c5 c6 hw0 hw1
 have hN2:=hN1.below b2
 have hB2:=hB1.below b2
 have p0:=hN2.c0
 have q0:=hB2.cells.1
 rw [hg] at p0 q0
 have hb2:=bel hb1 b2
 cases z
 ·go_wp2_with fail
  go_ret
  exact ⟨by unfold K.fits33;rw [←HZ.out];rfl,hb2⟩
 ·go_wp2_with fail
  go_ret
  exact ⟨by unfold K.fits33;rw [←HZ.out];rfl,hb2⟩
def BkBlk (w:World) (g:Nat) (x:Cs):Prop:=w.heap[g]? = some (.cells #[.int .i64 x.nd,.slice x.A x.n x.c,.slice x.SA x.sn x.sc,.slice x.B x.m x.d] 44 (0,0))
theorem BkBlk.below {w w':World} {g:Nat} {x:Cs} (h:BkBlk w g x) (hb:Below w.heap.size w w'):BkBlk w' g x:=blk_below hb h
theorem BkBlk.new (w:World) (x:Cs):BkBlk (w.alloc (.cells #[.int .i64 x.nd,.slice x.A x.n x.c,.slice x.SA x.sn x.sc,.slice x.B x.m x.d] 44)) w.heap.size x:=heap_alloc_new w _
def BQ (g:Nat) (x:Cs) (q:Q) (w':World):Prop:=(fun w':World=>w'.cell? ⟨g,0,none⟩=some (.int .i64 x.nd)∧w'.cell? ⟨g,1,none⟩=some (.slice x.A x.n x.c)∧w'.cell? ⟨g,2,none⟩=some (.slice x.SA x.sn x.sc)∧w'.cell? ⟨g,3,none⟩=some (.slice x.B x.m x.d) ∧
 w'.cell? ⟨g + 1,0,none⟩=some (.int .i64 q.node)∧w'.cell? ⟨g + 1,1,none⟩=some (.int .i64 q.room)∧w'.cell? ⟨g + 1,2,none⟩=some (.int .i64 q.kilos)∧w'.cell? ⟨g + 1,3,none⟩=some (.int .i64 q.service)∧w'.cell? ⟨g + 1,4,none⟩=some (.int .i64 q.frm)∧w'.cell? ⟨g + 1,5,none⟩=some (.int .i64 q.by_)∧w'.cell? ⟨g + 1,6,none⟩=some (.slice q.A q.n q.c)) w'
theorem BQ.mk' {w:World} {g:Nat} {x:Cs} {q:Q} (h1:BkBlk w g x) (h2:QBlk w (g + 1) q):BQ g x q w :=
 ⟨blk_cell h1 0 _ rfl,blk_cell h1 1 _ rfl,blk_cell h1 2 _ rfl,blk_cell h1 3 _ rfl,h2.cells⟩
structure Ok33 (w:World) (x:Cs) (q:Q):Prop where
 cs:CsAt w x
 req:Wins w q.A q.n q.l
 m:x.m≤100
 qs:∀ p ∈ x.r,p.n≤1000000
 q:q.n≤1000000
theorem Ok33.below {w w':World} {x:Cs} {q:Q} (h:Ok33 w x q) (hb:Below w.heap.size w w'):Ok33 w' x q:=⟨h.cs.below hb,h.req.below hb,h.m,h.qs,h.q⟩
theorem Ok33.len {w:World} {x:Cs} {q:Q} (h:Ok33 w x q) (v:List Int):∀ p ∈ K.pick33 x.r v q,p.l.length≤1000000:=fun p hp=>by
 unfold K.pick33 at hp
 rcases List.mem_append.1 hp with hp | hp
 ·obtain ⟨i,-,rfl⟩:=List.mem_map.1 hp
  unfold K.req
  cases hi:x.r[i.toNat]? with
  | none=>exact Nat.zero_le _
  | some p =>
   have hm:=List.mem_of_getElem? hi
   have h1:=(h.cs.reqs.2.2 p hm).1
   have h2:=h.qs p hm
   show p.l.length≤_
   omega
 ·rw [List.mem_singleton.1 hp]
  have h1:=h.req.1
  have h2:=h.q
  omega
def Cs.with_ (x:Cs) (A:Option Addr) (m k:Nat) (L:List Q):Cs:=⟨x.nd,x.A,x.n,x.c,x.l,x.SA,x.sn,x.sc,x.ss,A,m,k,L⟩
theorem Ok33.case {w w':World} {x:Cs} {q:Q} (h:Ok33 w x q) (hb:Below w.heap.size w w') {A:Option Addr} {m k:Nat} {L:List Q} {v:List Int} (hL:Reqs w' A m L) (e:L.map Q.bare=(K.pick33 x.r v q).map Q.bare) (hm:m≤1000000):CsAt w' (x.with_ A m k L) :=
 ⟨(h.cs.below hb).net,(h.cs.below hb).shifts,hL,h.cs.b1,h.cs.b2,h.cs.b3,(show m≤1000000000 by omega),fun p hp=>by have:=same_n hL e (h.len v) p hp;omega⟩
set_option maxRecDepth 100000 in
set_option maxHeartbeats 8000000 in
theorem blocks151_any (x:Cs) (q:Q) (V:Option Addr) (vn vc:Nat) (v:List Int) (w:World) (hx:Ok33 w x q) (hV:Ints w V vn v) (hv:∀ i ∈ v,0≤i∧i < (x.r.length:Int)) (hvn:vn≤1000) :
  Calls Tryz.prog 151 #[.agg #[.int .i64 x.nd,.slice x.A x.n x.c,.slice x.SA x.sn x.sc,.slice x.B x.m x.d],.slice V vn vc,.agg #[.int .i64 q.node,.int .i64 q.room,.int .i64 q.kilos,.int .i64 q.service,.int .i64 q.frm,.int .i64 q.by_,.slice q.A q.n q.c]] w fun e w'=>e=.returned (.bool (K.blocks33 x.nd x.l x.ss x.r q v))∧Below w.heap.size w w':=by
 obtain ⟨g,hg⟩:∃ g,g=w.heap.size:=⟨_,rfl⟩
 obtain ⟨w0,hw0⟩:∃ w0:World,w0=w.alloc (.cells #[.int .i64 x.nd,.slice x.A x.n x.c,.slice x.SA x.sn x.sc,.slice x.B x.m x.d] 44):=⟨_,rfl⟩
 have b0:Below w.heap.size w w0:=by rw [hw0];exact (Below.refl _ _).alloc (Nat.le_refl _) _
 have z0:w0.heap.size=g + 1:=by rw [hw0,hg];exact World.size_alloc _ _
 have hN0:BkBlk w0 g x:=by rw [hw0,hg];exact BkBlk.new _ _
 obtain ⟨wb,hw1⟩:∃ wb:World,wb=w0.alloc (.cells #[.int .i64 q.node,.int .i64 q.room,.int .i64 q.kilos,.int .i64 q.service,.int .i64 q.frm,.int .i64 q.by_,.slice q.A q.n q.c] 47):=⟨_,rfl⟩
 have b1:Below w0.heap.size w0 wb:=by rw [hw1];exact (Below.refl _ _).alloc (Nat.le_refl _) _
 have hB1:QBlk wb (g + 1) q:=by rw [hw1,←z0];exact QBlk.new _ _
 have hN1:=hN0.below b1
 have hb1:=bel b0 b1
 have hmk:∀ w',Below wb.heap.size wb w'→BQ g x q w':=fun w' h=>BQ.mk' (hN1.below h) (hB1.below h)
 have hbd:Below wb.heap.size wb wb.drew:=(Below.refl _ _).drew
 have S0:=hmk _ (Below.refl _ _)
 have S0d:=hmk _ hbd
 have hxb:=hx.below hb1
 have hVb:=hV.below hb1
 obtain ⟨pz,hpz⟩:∃ pz,pz=(K.plan x.nd x.l x.ss (K.pick33 x.r v q)).2:=⟨_,rfl⟩
 have HX:=Lib.hid (show K.blocks33 x.nd x.l x.ss x.r q v=(pz == 4) by unfold K.blocks33;rw [←hpz])
 have HPL:=Lib.hid (show ∀ L:List Q,L.map Q.bare=(K.pick33 x.r v q).map Q.bare→(K.plan x.nd x.l x.ss L).2=pz from fun L e=>by rw [hpz,K.plan_same e rfl])
 have hm9:=hx.m
 clear hpz
 go_enter Tryz.func151,Tryz.ntmps151
 go_upto_region 1 with fail
 rw [←hw0,←hw1]
 clear hw0 hw1 z0 hN0 b0 b1 hB1 hN1
 unfold BQ at S0 S0d hmk
 subst hg
 go_region_held3 (fun w':World=>w'.cell? ⟨w.heap.size,0,none⟩=some (.int .i64 x.nd)∧w'.cell? ⟨w.heap.size,1,none⟩=some (.slice x.A x.n x.c)∧w'.cell? ⟨w.heap.size,2,none⟩=some (.slice x.SA x.sn x.sc)∧w'.cell? ⟨w.heap.size,3,none⟩=some (.slice x.B x.m x.d)∧w'.cell? ⟨w.heap.size + 1,0,none⟩=some (.int .i64 q.node)∧w'.cell? ⟨w.heap.size + 1,1,none⟩=some (.int .i64 q.room)∧w'.cell? ⟨w.heap.size + 1,2,none⟩=some (.int .i64 q.kilos)∧w'.cell? ⟨w.heap.size + 1,3,none⟩=some (.int .i64 q.service)∧w'.cell? ⟨w.heap.size + 1,4,none⟩=some (.int .i64 q.frm)∧w'.cell? ⟨w.heap.size + 1,5,none⟩=some (.int .i64 q.by_)∧w'.cell? ⟨w.heap.size + 1,6,none⟩=some (.slice q.A q.n q.c))
  (first | with_reducible exact S2 | with_reducible exact S1 | with_reducible exact S0d | with_reducible exact S0 | fail)
  (first
   | (go_at_call 95;refine (with_any x.B x.m x.d x.r V vn vc v q _ (hxb.below hbd).cs.reqs (hVb.below hbd) hv (hxb.below hbd).req hx.qs hx.q hvn).mono ?_;rintro e wc ⟨⟨A1,k1,L1,rfl,hL1,hLb,hk1,-,-⟩,bc⟩;have bc2:=bel hbd bc;have S1:=hmk _ bc2)
   | (go_at_call 20;refine (plan32_any (x.with_ A1 (vn + 1) k1 L1) _ (hxb.case bc2 hL1 hLb (by omega))).mono ?_;rintro e wd ⟨⟨PA,pn,pc,pl,rfl,-,-,-⟩,bd⟩;have bd2:=bel bc2 bd;have S2:=hmk _ bd2)
   | fail)
 have hz:(K.plan (x.with_ A1 (vn + 1) k1 L1).nd (x.with_ A1 (vn + 1) k1 L1).l (x.with_ A1 (vn + 1) k1 L1).ss (x.with_ A1 (vn + 1) k1 L1).r).2=pz:=HPL.out L1 hLb
 rw [hz]
 go_wp2_with fail
 go_ret
 exact ⟨by rw [HX.out];rfl,bel hb1 bd2⟩
theorem flat_one {α:Type} (f:α→List Value) (h:∀ x,∀ u ∈ f x,u.oneCell'=true) (l:List α):∀ u ∈ l.flatMap f,u.oneCell'=true:=fun u hu=>by
 obtain ⟨x,-,h2⟩:=List.mem_flatMap.1 hu
 exact h x u h2
theorem road_one (x:Ro):∀ u ∈ roadCells x,u.oneCell'=true:=by
 intro u hu
 simp only [roadCells,List.mem_cons,List.not_mem_nil,or_false] at hu
 rcases hu with rfl | rfl | rfl | rfl <;> rfl
theorem req_one (x:Q):∀ u ∈ Q.cells x,u.oneCell'=true:=by
 intro u hu
 simp only [Q.cells,List.mem_cons,List.not_mem_nil,or_false] at hu
 rcases hu with rfl | rfl | rfl | rfl | rfl | rfl | rfl <;> rfl
theorem eql22 (a:Option Addr) (l c:Nat) (w:World):(binOp .eql 22 (.slice a l c) (.slice none 0 0)).run Tryz.prog w=.ok (.bool a.isNone) w:=Go.run_eql_slice_nil w 22 134 a l c Tryz.underlying22
theorem clone149_info:(Tryz.prog.info? 134).map (fun i=>(i.zero,i.size,i.bytes))=some (some (.agg #[.int .i64 0,.int .i64 0,.int .i64 0,.int .i64 0]),4,32):=by kernel_rfl
set_option maxHeartbeats 2000000 in
theorem clone149 (A:Option Addr) (n c:Nat) (xs:List Value) (w:World) (hl:Rd w 4 A n xs) (h1:∀ u ∈ xs,u.oneCell'=true) (hn:n≤1000000) :
  Calls Tryz.prog 149 #[.slice A n c] w fun e w'=>(∃ v,e=.returned v∧w'.ownsRow w.heap.size 134 4 v n xs)∧Below w.heap.size w w':=by
 obtain ⟨i0,hi,hz0,hz1,hz2⟩:=info_parts clone149_info
 have heq:=eql22
 cases A with
 | none =>
  go_enter Tryz.func149,Tryz.ntmps149
  go_wp2_with fail
  go_ret
  have h0:n=0:=by
   cases n with
   | zero=>rfl
   | succ n=>obtain ⟨ad,e,_⟩:=hl.2 (by omega);cases e
  subst h0
  have hl0:xs=[]:=List.length_eq_zero_iff.1 (by have:=hl.1;omega)
  subst hl0
  exact ⟨⟨_,rfl,World.ownsRow_nil _ _ _ _⟩,Below.refl _ _⟩
 | some ad =>
  have hlit:(w.alloc (.cells #[] 134)).ownsRow w.heap.size 134 4 (.slice (some ⟨w.heap.size,0,none⟩) 0 0) 0 []:=World.ownsRow_lit w #[] 0 (Nat.le_refl _) (by simp only [maxLen];omega) (by simp)
  have hb0:=(Below.refl w.heap.size w).alloc (Nat.le_refl _) (.cells #[] 134)
  go_enter Tryz.func149,Tryz.ntmps149
  go_wp2_with (at_builtin;refine wp_append_rd rfl (.tmp 5) (.tmp 6) 22 rfl w.heap.size 134 i0 (.agg #[.int .i64 0,.int .i64 0,.int .i64 0,.int .i64 0]) 4 32 Tryz.underlying22 hi hz0 hz1 hz2 rfl (by decide) _ 0 _ rfl hlit (some ad) n c xs rfl (hl.below hb0) h1 (by simp only [maxLen];omega) (by omega) (by first | (simp;done) | (simp;omega)) ?_;intro v' w4 hown4 hgrow4 hat4)
  rw [Nat.zero_add] at hown4
  have hb4:Below w.heap.size w w4:=below_own hb0 (Nat.le_refl _) hgrow4 (fun g h=>(hlit.lt g h).1)
  clear hgrow4 hat4
  go_wp2_with fail
  go_ret
  exact ⟨⟨_,rfl,hown4⟩,hb4⟩
theorem eql25 (a:Option Addr) (l c:Nat) (w:World):(binOp .eql 25 (.slice a l c) (.slice none 0 0)).run Tryz.prog w=.ok (.bool a.isNone) w:=Go.run_eql_slice_nil w 25 63 a l c Tryz.underlying25
theorem clone150_info:(Tryz.prog.info? 63).map (fun i=>(i.zero,i.size,i.bytes))=some (some (.agg #[.int .i64 0,.int .i64 0,.int .i64 0,.int .i64 0,.int .i64 0,.slice none 0 0]),6,64):=by kernel_rfl
set_option maxHeartbeats 2000000 in
theorem clone150 (A:Option Addr) (n c:Nat) (xs:List Value) (w:World) (hl:Rd w 6 A n xs) (h1:∀ u ∈ xs,u.oneCell'=true) (hn:n≤1000000) :
  Calls Tryz.prog 150 #[.slice A n c] w fun e w'=>(∃ v,e=.returned v∧w'.ownsRow w.heap.size 63 6 v n xs)∧Below w.heap.size w w':=by
 obtain ⟨i0,hi,hz0,hz1,hz2⟩:=info_parts clone150_info
 have heq:=eql25
 cases A with
 | none =>
  go_enter Tryz.func150,Tryz.ntmps150
  go_wp2_with fail
  go_ret
  have h0:n=0:=by
   cases n with
   | zero=>rfl
   | succ n=>obtain ⟨ad,e,_⟩:=hl.2 (by omega);cases e
  subst h0
  have hl0:xs=[]:=List.length_eq_zero_iff.1 (by have:=hl.1;omega)
  subst hl0
  exact ⟨⟨_,rfl,World.ownsRow_nil _ _ _ _⟩,Below.refl _ _⟩
 | some ad =>
  have hlit:(w.alloc (.cells #[] 63)).ownsRow w.heap.size 63 6 (.slice (some ⟨w.heap.size,0,none⟩) 0 0) 0 []:=World.ownsRow_lit w #[] 0 (Nat.le_refl _) (by simp only [maxLen];omega) (by simp)
  have hb0:=(Below.refl w.heap.size w).alloc (Nat.le_refl _) (.cells #[] 63)
  go_enter Tryz.func150,Tryz.ntmps150
  go_wp2_with (at_builtin;refine wp_append_rd rfl (.tmp 5) (.tmp 6) 25 rfl w.heap.size 63 i0 (.agg #[.int .i64 0,.int .i64 0,.int .i64 0,.int .i64 0,.int .i64 0,.slice none 0 0]) 6 64 Tryz.underlying25 hi hz0 hz1 hz2 rfl (by decide) _ 0 _ rfl hlit (some ad) n c xs rfl (hl.below hb0) h1 (by simp only [maxLen];omega) (by omega) (by first | (simp;done) | (simp;omega)) ?_;intro v' w4 hown4 hgrow4 hat4)
  rw [Nat.zero_add] at hown4
  have hb4:Below w.heap.size w w4:=below_own hb0 (Nat.le_refl _) hgrow4 (fun g h=>(hlit.lt g h).1)
  clear hgrow4 hat4
  go_wp2_with fail
  go_ret
  exact ⟨⟨_,rfl,hown4⟩,hb4⟩
theorem eql26 (a:Option Addr) (l c:Nat) (w:World):(binOp .eql 26 (.slice a l c) (.slice none 0 0)).run Tryz.prog w=.ok (.bool a.isNone) w:=Go.run_eql_slice_nil w 26 47 a l c Tryz.underlying26
theorem clone120_info:(Tryz.prog.info? 47).map (fun i=>(i.zero,i.size,i.bytes))=some (some (.agg #[.int .i64 0,.int .i64 0,.int .i64 0,.int .i64 0,.int .i64 0,.int .i64 0,.slice none 0 0]),7,72):=by kernel_rfl
set_option maxHeartbeats 2000000 in
theorem clone120 (A:Option Addr) (n c:Nat) (xs:List Value) (w:World) (hl:Rd w 7 A n xs) (h1:∀ u ∈ xs,u.oneCell'=true) (hn:n≤1000000) :
  Calls Tryz.prog 120 #[.slice A n c] w fun e w'=>(∃ v,e=.returned v∧w'.ownsRow w.heap.size 47 7 v n xs)∧Below w.heap.size w w':=by
 obtain ⟨i0,hi,hz0,hz1,hz2⟩:=info_parts clone120_info
 have heq:=eql26
 cases A with
 | none =>
  go_enter Tryz.func120,Tryz.ntmps120
  go_wp2_with fail
  go_ret
  have h0:n=0:=by
   cases n with
   | zero=>rfl
   | succ n=>obtain ⟨ad,e,_⟩:=hl.2 (by omega);cases e
  subst h0
  have hl0:xs=[]:=List.length_eq_zero_iff.1 (by have:=hl.1;omega)
  subst hl0
  exact ⟨⟨_,rfl,World.ownsRow_nil _ _ _ _⟩,Below.refl _ _⟩
 | some ad =>
  have hlit:(w.alloc (.cells #[] 47)).ownsRow w.heap.size 47 7 (.slice (some ⟨w.heap.size,0,none⟩) 0 0) 0 []:=World.ownsRow_lit w #[] 0 (Nat.le_refl _) (by simp only [maxLen];omega) (by simp)
  have hb0:=(Below.refl w.heap.size w).alloc (Nat.le_refl _) (.cells #[] 47)
  go_enter Tryz.func120,Tryz.ntmps120
  go_wp2_with (at_builtin;refine wp_append_rd rfl (.tmp 5) (.tmp 6) 26 rfl w.heap.size 47 i0 (.agg #[.int .i64 0,.int .i64 0,.int .i64 0,.int .i64 0,.int .i64 0,.int .i64 0,.slice none 0 0]) 7 72 Tryz.underlying26 hi hz0 hz1 hz2 rfl (by decide) _ 0 _ rfl hlit (some ad) n c xs rfl (hl.below hb0) h1 (by simp only [maxLen];omega) (by omega) (by first | (simp;done) | (simp;omega)) ?_;intro v' w4 hown4 hgrow4 hat4)
  rw [Nat.zero_add] at hown4
  have hb4:Below w.heap.size w w4:=below_own hb0 (Nat.le_refl _) hgrow4 (fun g h=>(hlit.lt g h).1)
  clear hgrow4 hat4
  go_wp2_with fail
  go_ret
  exact ⟨⟨_,rfl,hown4⟩,hb4⟩
end Go.Proofs.YtippdjmpkafifaaGreat
