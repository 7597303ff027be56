import Derived.Test.YtippdjmpkafifaaGreatCV8
import Derived.Test.YtippdjmpkafifaaGreatCV10
import Derived.Deep.Light
import Derived.Test.YtippdjmpkafifaaGreatCV7
import Derived.Deep.RegionLawGrows
namespace Go.Proofs.YtippdjmpkafifaaGreat
open Go.RowKit
def S.cells (s:S):List Value:=[.int .i64 s.day,.int .i64 s.depot,.int .i64 s.start,.int .i64 s.end_,.int .i64 s.tare,.slice s.A s.n s.c]
def Shifts (w:World) (A:Option Addr) (n:Nat) (l:List S):Prop:=Lst S.cells 6 w A n l∧∀ s ∈ l,Ints w s.A s.n s.l
theorem Shifts.below {w w':World} {A:Option Addr} {n:Nat} {l:List S} (h:Shifts w A n l) (hb:Below w.heap.size w w'):Shifts w' A n l:=⟨Lst.below h.1 hb,fun s hs=>(h.2 s hs).below hb⟩
theorem Shifts.ext {w w':World} {A:Option Addr} {n:Nat} {l:List S} (h:Shifts w A n l) (hb:Ext w w'):Shifts w' A n l:=⟨Lst.ext h.1 hb,fun s hs=>(h.2 s hs).ext hb⟩
theorem Shifts.at_ {w:World} {A:Option Addr} {n k:Nat} {l:List S} (h:Shifts w A n l) (hk:k < n) :
  ∃ ad s,A=some ad∧l[k]? = some s∧Ints w s.A s.n s.l∧w.cell? (ad.add (k * 6))=some (.int .i64 s.day)∧w.cell? ⟨(ad.add (k * 6)).block,(ad.add (k * 6)).off + 1,none⟩=some (.int .i64 s.depot) ∧
   w.cell? ⟨(ad.add (k * 6)).block,(ad.add (k * 6)).off + 2,none⟩=some (.int .i64 s.start)∧w.cell? ⟨(ad.add (k * 6)).block,(ad.add (k * 6)).off + 3,none⟩=some (.int .i64 s.end_) ∧
   w.cell? ⟨(ad.add (k * 6)).block,(ad.add (k * 6)).off + 4,none⟩=some (.int .i64 s.tare)∧w.cell? ⟨(ad.add (k * 6)).block,(ad.add (k * 6)).off + 5,none⟩=some (.slice s.A s.n s.c):=by
 obtain ⟨ad,s,hA,hl,hc⟩:=Lst.get (f:=S.cells) (s:=6) (fun _=>rfl) h.1 hk
 refine ⟨ad,s,hA,hl,h.2 s (List.mem_of_getElem? hl),hc 0 _ (by omega) rfl,?_,?_,?_,?_,?_⟩ <;> rw [←add_next _ _ _ (by omega)]
 ·exact hc 1 _ (by omega) rfl
 ·exact hc 2 _ (by omega) rfl
 ·exact hc 3 _ (by omega) rfl
 ·exact hc 4 _ (by omega) rfl
 ·exact hc 5 _ (by omega) rfl
structure Cs where
 nd:Int
 A:Option Addr
 n:Nat
 c:Nat
 l:List Ro
 SA:Option Addr
 sn:Nat
 sc:Nat
 ss:List S
 B:Option Addr
 m:Nat
 d:Nat
 r:List Q
structure CsAt (w:World) (x:Cs):Prop where
 net:Roads w x.A x.n x.l
 shifts:Shifts w x.SA x.sn x.ss
 reqs:Reqs w x.B x.m x.r
 b1:x.n≤1000000000
 b2:∀ s ∈ x.ss,s.n≤1000000000
 b3:x.sn≤1000000000
 b4:x.m≤1000000000
 b5:∀ q ∈ x.r,q.n≤1000000000
theorem CsAt.below {w w':World} {x:Cs} (h:CsAt w x) (hb:Below w.heap.size w w'):CsAt w' x:=⟨Lst.below h.net hb,h.shifts.below hb,h.reqs.below hb,h.b1,h.b2,h.b3,h.b4,h.b5⟩
theorem CsAt.ext {w w':World} {x:Cs} (h:CsAt w x) (hb:Ext w w'):CsAt w' x:=⟨Lst.ext h.net hb,h.shifts.ext hb,h.reqs.ext hb,h.b1,h.b2,h.b3,h.b4,h.b5⟩
def Cs.one (x:Cs) (s:S):C:=⟨x.nd,x.A,x.n,x.c,x.l,s,x.B,x.m,x.d,x.r⟩
theorem CsAt.case {w:World} {x:Cs} (h:CsAt w x) {s:S} (hs:s ∈ x.ss):At w (x.one s):=⟨h.net,h.shifts.2 s hs,h.reqs,h.b1,h.b2 s hs,h.b4,h.b5⟩
namespace K
def pc1 (nd:Int) (ss:List S) (r:List Q):Int:=if ss.any (badS nd) || r.any (badQ nd) then 1 else 0
theorem pcheck_net {nd:Int} {l:List Ro} {ss:List S} {r:List Q} (h:netErr nd l ≠ 0):pcheck nd l ss r=1:=by simp [pcheck,h]
theorem pcheck_many {nd:Int} {l:List Ro} {ss:List S} {r:List Q} (h:¬ ss.length≤4):pcheck nd l ss r=1:=by simp [pcheck];intros;omega
theorem pcheck_go {nd:Int} {l:List Ro} {ss:List S} {r:List Q} (h:netErr nd l=0) (h2:ss.length≤4):pcheck nd l ss r=if pc1 nd ss r=1 then 1 else if 6 < r.length then 6 else 0:=by
 unfold pcheck pc1
 rw [h,decide_eq_true h2]
 cases ss.any (badS nd) <;> cases r.any (badQ nd) <;> simp
theorem pc1_s {nd:Int} {ss:List S} {r:List Q} {k:Nat} {s:S} (h:ss[k]? = some s):pc1 nd (ss.drop k) r=if badS nd s=true then 1 else pc1 nd (ss.drop (k + 1)) r:=by
 obtain ⟨hk,e⟩:=List.getElem?_eq_some_iff.1 h
 unfold pc1
 rw [List.drop_eq_getElem_cons hk,e,List.any_cons]
 cases badS nd s <;> simp
theorem pc1_q {nd:Int} {r:List Q} {k:Nat} {q:Q} (h:r[k]? = some q):pc1 nd [] (r.drop k)=if badQ nd q=true then 1 else pc1 nd [] (r.drop (k + 1)):=by
 obtain ⟨hk,e⟩:=List.getElem?_eq_some_iff.1 h
 unfold pc1
 rw [List.drop_eq_getElem_cons hk,e,List.any_cons]
 cases badQ nd q <;> simp
theorem pc1_nil (nd:Int):pc1 nd [] [] = 0:=rfl
end K
set_option maxRecDepth 100000 in
set_option maxHeartbeats 16000000 in
theorem check32_any (x:Cs) (w:World) (hx:CsAt w x) :
  Calls Tryz.prog 65 #[.agg #[.int .i64 x.nd,.slice x.A x.n x.c],.slice x.SA x.sn x.sc,.slice x.B x.m x.d] w fun e w'=>e=.returned (.int .i64 (K.pcheck x.nd x.l x.ss x.r))∧Below w.heap.size w w':=by
 have b0:Below w.heap.size w (w.alloc (.cells #[.int .i64 x.nd,.slice x.A x.n x.c] 24)):=(Below.refl _ _).alloc (Nat.le_refl _) _
 have hN:=Net.new w x.nd x.A x.n x.c
 have hsnb:=hx.b3
 have hmb:=hx.b4
 have p0:=hN.c0
 have p1:=hN.c1
 go_enter Tryz.func65,Tryz.ntmps65
 go_wp2_with fail
 refine (netcheck_any x.nd x.A x.n x.c x.l _ (Lst.below hx.net b0) hx.b1).mono ?_
 obtain ⟨ne,hne⟩:∃ ne,ne=K.netErr x.nd x.l:=⟨_,rfl⟩
 rw [←hne]
 rintro e w1 ⟨rfl,b1⟩
 have hb1:=bel b0 b1
 have hN:=hN.below b1
 clear p0 p1 b0 b1
 by_cases hz:ne=0
 rotate_left
 ·have HX:=Lib.hid (K.pcheck_net (ss:=x.ss) (r:=x.r) (by rw [←hne];exact hz))
  have hd:(ne != 0)=true:=by simp [bne,hz]
  clear hne
  go_wp2_with fail
  go_ret
  exact ⟨by rw [HX.out];rfl,hb1⟩
 have HN0:=Lib.hid (hne.symm.trans hz)
 subst hz
 clear hne
 by_cases hm:x.ss.length≤4
 rotate_left
 ·have HX:=Lib.hid (K.pcheck_many (nd:=x.nd) (l:=x.l) (r:=x.r) hm)
  have hd:decide ((4:Int) < (x.sn:Int))=true:=by rw [hx.shifts.1.1];simp;omega
  have hdn:decide (4 < x.sn)=true:=by rw [hx.shifts.1.1];simp;omega
  go_wp2_with fail
  go_ret
  exact ⟨by rw [HX.out];rfl,hb1⟩
 have HSN:=Lib.hid hx.shifts.1.1
 have HRN:=Lib.hid hx.reqs.1
 have hd:decide ((4:Int) < (x.sn:Int))=false:=by rw [HSN.out];simp;omega
 have hdn:decide (4 < x.sn)=false:=by rw [HSN.out];simp;omega
 have HP:=Lib.hid (K.pcheck_go (r:=x.r) HN0.out hm)
 clear hm
 go_wp2_with fail
 clear hd hdn
 go_loopw [21] (fun v21 wr=>∃ k:Nat,v21=.int .i64 k∧k≤x.sn∧Hid (K.pc1 x.nd x.ss x.r=K.pc1 x.nd (x.ss.drop k) x.r)∧Below w1.heap.size w1 wr) (fun v21 _=>x.sn - (intOf v21).toNat)
 case atStart=>exact ⟨0,rfl,Nat.zero_le _,rfl,Below.refl _ _⟩
 case round =>
  obtain ⟨k,rfl,hk,hpc,hbr⟩:=hrel
  by_cases hlt:k < x.sn
  ·obtain ⟨ad,s,hA,hs,hI,c0,c1,c2,c3,c4,c5⟩:=(hx.shifts.below (bel hb1 hbr)).at_ hlt
   have hsm:=List.mem_of_getElem? hs
   have HA:=Lib.hid hA
   have HST:=Lib.hid (show K.pc1 x.nd x.ss x.r=_ from hpc.out.trans (K.pc1_s hs))
   have hsn:=hx.b2 s hsm
   obtain ⟨w2,hw2⟩:∃ w2:World,w2=wr.alloc (.cells #[.int .i64 s.day,.int .i64 s.depot,.int .i64 s.start,.int .i64 s.end_,.int .i64 s.tare,.slice s.A s.n s.c] 63):=⟨_,rfl⟩
   obtain ⟨g,hg⟩:∃ g,g=wr.heap.size:=⟨_,rfl⟩
   have b2:Below wr.heap.size wr w2:=by rw [hw2];exact (Below.refl _ _).alloc (Nat.le_refl _) _
   have hS2:Shf w2 g s:=by rw [hw2,hg];exact Shf.new _ _
   have hN2:=(hN.below hbr).below b2
   have hI2:=hI.below b2
   have hb2:=bel hbr b2
   have k0:(0:Int)≤(k:Int):=by omega
   have k1:(k:Int) < (x.sn:Int):=by omega
   clear hs hsm hpc hI
   rw [hA]
   go_upto_region 6 with fail
   rw [←hw2,←hg]
   clear hw2 hg c0 c1 c2 c3 c4 c5 hA hbr b2
   obtain ⟨s0,s1,s2,s3,s4,s5⟩:=hS2.cells
   go_wp2_with fail
   refine (check_any s w2 hI2 hsn).mono ?_
   obtain ⟨ce,hce⟩:∃ ce,ce=T.check s:=⟨_,rfl⟩
   rw [←hce]
   rintro e w3 ⟨rfl,b3⟩
   have hS3:=hS2.below b3
   have hN3:=hN2.below b3
   have hb3:=bel hb2 b3
   clear s0 s1 s2 s3 s4 s5 hS2 hN2 hI2 hb2 b3
   by_cases hz:ce=0
   ·have hcb:(ce != 0)=false:=by simp [bne,hz]
    by_cases hdp:s.depot < x.nd
    ·have hge:decide (x.nd≤s.depot)=false:=by simp;omega
     have HNX:=Lib.hid (show K.pc1 x.nd x.ss x.r=K.pc1 x.nd (x.ss.drop (k + 1)) x.r by rw [HST.out,if_neg];simp [K.badS,←hce,hz];omega)
     obtain ⟨s0,s1,s2,s3,s4,s5⟩:=hS3.cells
     have p0:=hN3.c0
     clear hce hz hdp
     go_wp2_with fail
     go_roundw
     case rel=>exact ⟨k + 1,by go_num,hlt,HNX.out,hb3⟩
     case measure=>simp [intOf];omega
    ·have hge:decide (x.nd≤s.depot)=true:=by simp;omega
     have HX:=Lib.hid (show K.pcheck x.nd x.l x.ss x.r=1 by rw [HP.out,HST.out,if_pos (show K.badS x.nd s=true by simp [K.badS];omega)];rfl)
     obtain ⟨s0,s1,s2,s3,s4,s5⟩:=hS3.cells
     have p0:=hN3.c0
     clear hce hz hdp
     go_wp2_with fail
     go_ret
     exact ⟨by rw [HX.out];rfl,bel hb1 hb3⟩
   ·have hcb:(ce != 0)=true:=by simp [bne,hz]
    have HX:=Lib.hid (show K.pcheck x.nd x.l x.ss x.r=1 by rw [HP.out,HST.out,if_pos (show K.badS x.nd s=true by simp [K.badS,←hce,hz])];rfl)
    clear hce hz
    go_wp2_with fail
    go_ret
    exact ⟨by rw [HX.out];rfl,bel hb1 hb3⟩
  ·have HQ0:=Lib.hid (show K.pc1 x.nd x.ss x.r=K.pc1 x.nd [] x.r by rw [hpc.out,List.drop_eq_nil_of_le (by rw [←HSN.out];omega)])
   clear hpc
   have hN1:=hN.below hbr
   have hb1:=bel hb1 hbr
   obtain ⟨w4,hw4⟩:∃ w4,w4=wr:=⟨_,rfl⟩
   rw [←hw4] at hN1 hb1 ⊢
   clear hN hbr hw4
   go_wp2_with fail
   go_loopw [38] (fun v38 wq=>∃ k:Nat,v38=.int .i64 k∧k≤x.m∧Hid (K.pc1 x.nd x.ss x.r=K.pc1 x.nd [] (x.r.drop k))∧Below w4.heap.size w4 wq) (fun v38 _=>x.m - (intOf v38).toNat)
   case atStart=>exact ⟨0,rfl,Nat.zero_le _,HQ0.out,Below.refl _ _⟩
   case round =>
    clear HQ0
    obtain ⟨k,rfl,hk,hpc,hbr⟩:=hrel
    by_cases hlt:k < x.m
    ·obtain ⟨ad,q,hA,hq,hI,c0,c1,c2,c3,c4,c5,c6⟩:=(hx.reqs.below (bel hb1 hbr)).at_ hlt
     have HA:=Lib.hid hA
     have HST:=Lib.hid (show K.pc1 x.nd x.ss x.r=_ from hpc.out.trans (K.pc1_q hq))
     have hsn:=hx.b5 q (List.mem_of_getElem? hq)
     obtain ⟨w2,hw2⟩:∃ w2:World,w2=wr.alloc (.cells #[.int .i64 q.node,.int .i64 q.room,.int .i64 q.kilos,.int .i64 q.service,.int .i64 q.frm,.int .i64 q.by_,.slice q.A q.n q.c] 47):=⟨_,rfl⟩
     obtain ⟨g,hg⟩:∃ g,g=wr.heap.size:=⟨_,rfl⟩
     have b2:Below wr.heap.size wr w2:=by rw [hw2];exact (Below.refl _ _).alloc (Nat.le_refl _) _
     have hS2:QBlk w2 g q:=by rw [hw2,hg];exact heap_alloc_new _ _
     have hN2:=(hN1.below hbr).below b2
     have hI2:=hI.below b2
     have hb2:=bel hbr b2
     have k0:(0:Int)≤(k:Int):=by omega
     have k1:(k:Int) < (x.m:Int):=by omega
     clear hq hpc hI
     rw [hA]
     go_upto_region 12 with fail
     rw [←hw2,←hg]
     clear hw2 hg c0 c1 c2 c3 c4 c5 c6 hA hbr b2
     have s0:=blk_cell hS2 0 _ rfl
     have s1:=blk_cell hS2 1 _ rfl
     have s2:=blk_cell hS2 2 _ rfl
     have s3:=blk_cell hS2 3 _ rfl
     have s4:=blk_cell hS2 4 _ rfl
     have s5:=blk_cell hS2 5 _ rfl
     have s6:=blk_cell hS2 6 _ rfl
     go_wp2_with fail
     refine (tright_any q w2 hI2 hsn).mono ?_
     obtain ⟨ce,hce⟩:∃ ce,ce=T.right q:=⟨_,rfl⟩
     rw [←hce]
     rintro e w3 ⟨rfl,b3⟩
     have hS3:=blk_below b3 hS2
     have hN3:=hN2.below b3
     have hb3:=bel hb2 b3
     clear s0 s1 s2 s3 s4 s5 s6 hS2 hN2 hI2 hb2 b3
     cases ce
     ·have HX:=Lib.hid (show K.pcheck x.nd x.l x.ss x.r=1 by rw [HP.out,HST.out,if_pos (show K.badQ x.nd q=true by simp [K.badQ,←hce])];rfl)
      clear hce
      go_wp2_with fail
      go_ret
      exact ⟨by rw [HX.out];rfl,bel hb1 hb3⟩
     ·have s0:=blk_cell hS3 0 _ rfl
      have p0:=hN3.c0
      by_cases hdp:q.node < x.nd
      ·have hge:decide (x.nd≤q.node)=false:=by simp;omega
       have HNX:=Lib.hid (show K.pc1 x.nd x.ss x.r=K.pc1 x.nd [] (x.r.drop (k + 1)) by rw [HST.out,if_neg];simp [K.badQ,←hce];omega)
       clear hce hdp
       go_wp2_with fail
       go_roundw
       case rel=>exact ⟨k + 1,by go_num,hlt,HNX.out,hb3⟩
       case measure=>simp [intOf];omega
      ·have hge:decide (x.nd≤q.node)=true:=by simp;omega
       have HX:=Lib.hid (show K.pcheck x.nd x.l x.ss x.r=1 by rw [HP.out,HST.out,if_pos (show K.badQ x.nd q=true by simp [K.badQ];omega)];rfl)
       clear hce hdp
       go_wp2_with fail
       go_ret
       exact ⟨by rw [HX.out];rfl,bel hb1 hb3⟩
    ·have HE:=Lib.hid (show K.pcheck x.nd x.l x.ss x.r=if 6 < x.m then 6 else 0 by
      rw [HP.out,hpc.out,List.drop_eq_nil_of_le (by rw [←HRN.out];omega),K.pc1_nil,←HRN.out]
      rfl)
     clear hpc
     by_cases h6:6 < x.m
     ·have hd:decide ((6:Int) < (x.m:Int))=true:=by simp;omega
      have hdn:decide (6 < x.m)=true:=decide_eq_true h6
      go_wp2_with fail
      go_ret
      exact ⟨by rw [HE.out,if_pos h6];rfl,bel hb1 hbr⟩
     ·have hd:decide ((6:Int) < (x.m:Int))=false:=by simp;omega
      have hdn:decide (6 < x.m)=false:=decide_eq_false h6
      go_wp2_with fail
      go_ret
      exact ⟨by rw [HE.out,if_neg h6];rfl,bel hb1 hbr⟩
end Go.Proofs.YtippdjmpkafifaaGreat
namespace Go.Proofs.YtippdjmpkafifaaGreat
open Go.RowKit
namespace K
def iota (n:Nat):List Int:=(List.range n).map fun (i:Nat)=>(i:Int)
def num (v:List Int):Nat:=v.foldl (fun n i=>n + 2 ^ i.toNat) 0
theorem num_snoc (v:List Int) (i:Int):num (v ++ [i])=num v + 2 ^ i.toNat:=by simp [num]
theorem sub_mask2:∀ {v w:List Int},v.Sublist w→∃ m,m < 2 ^ w.length∧part w m=v
 | _,_,.slnil=>⟨0,by simp,rfl⟩
 | _,_,.cons (l₂:=l) a h=>by
  obtain ⟨m,hm,e⟩:=sub_mask2 h
  have h2:2 ^ (l.length + 1)=2 * 2 ^ l.length:=by rw [Nat.pow_succ];omega
  refine ⟨2 * m,by rw [List.length_cons,h2];omega,?_⟩
  have h1:(2 * m).testBit 0=false:=by rw [Nat.testBit_zero];simp
  rw [part,if_neg (by rw [h1];simp),show 2 * m / 2=m by omega,e]
 | _,_,.cons_cons (l₂:=l) a h=>by
  obtain ⟨m,hm,e⟩:=sub_mask2 h
  have h2:2 ^ (l.length + 1)=2 * 2 ^ l.length:=by rw [Nat.pow_succ];omega
  refine ⟨2 * m + 1,by rw [List.length_cons,h2];omega,?_⟩
  have h1:(2 * m + 1).testBit 0=true:=by rw [Nat.testBit_zero];simp
  rw [part,if_pos h1,show (2 * m + 1) / 2=m by omega,e]
theorem iota_sorted (n:Nat):(iota n).Pairwise (· < ·):=by
 unfold iota
 rw [List.pairwise_map]
 exact List.pairwise_lt_range.imp fun h=>by omega
theorem mem_iota {n:Nat} {x:Int}:x ∈ iota n ↔ 0≤x∧x < (n:Int):=by
 unfold iota
 rw [List.mem_map]
 constructor
 ·rintro ⟨i,hi,rfl⟩
  rw [List.mem_range] at hi
  omega
 ·intro h
  exact ⟨x.toNat,by rw [List.mem_range];omega,by omega⟩
theorem num_all:∀ m:Fin 64,num (part (iota 6) m.val)=m.val:=by decide +kernel
def numOk (v:List Int) (j:Nat):Bool:=match v[j]? with
 | none=>true
 | some i=>decide (num (v.take j) < 64) && (!((num (v.take j)).testBit i.toNat) && (decide (0≤i) && decide (i < 6)))
theorem num_ok:∀ m:Fin 64,∀ j:Fin 7,numOk (part (iota 6) m.val) j.val=true:=by decide +kernel
structure Set6 (v:List Int) (m:Nat):Prop where
 lt:m < 64
 eq:v=part (iota 6) m
theorem set6 {v:List Int} (hs:v.Pairwise (· < ·)) (hb:∀ x ∈ v,0≤x∧x < 6):∃ m,Set6 v m:=by
 obtain ⟨m,h1,h2⟩:=sub_mask2 (A.sub_of_sorted hs (iota_sorted 6) fun x hx=>mem_iota.2 (hb x hx))
 have:(iota 6).length=6:=by decide
 rw [this] at h1
 exact ⟨m,h1,h2.symm⟩
theorem Set6.num {v:List Int} {m:Nat} (h:Set6 v m):K.num v=m:=by rw [h.eq];exact num_all ⟨m,h.lt⟩
theorem Set6.len {v:List Int} {m:Nat} (h:Set6 v m):v.length≤6:=by rw [h.eq];exact Nat.le_trans (part_len _ _) (by decide)
theorem Set6.at_ {v:List Int} {m j:Nat} {i:Int} (h:Set6 v m) (hj:v[j]? = some i):K.num (v.take j) < 64∧(K.num (v.take j)).testBit i.toNat=false∧0≤i∧i < 6:=by
 have hl:=h.len
 have hlt:=(List.getElem?_eq_some_iff.1 hj).1
 have:=num_ok ⟨m,h.lt⟩ ⟨j,by omega⟩
 rw [←h.eq] at this
 unfold numOk at this
 simp only [hj,Bool.and_eq_true,decide_eq_true_eq,Bool.not_eq_true'] at this
 exact ⟨this.1,this.2.1,this.2.2.1,this.2.2.2⟩
theorem Set6.next {v:List Int} {m j:Nat} {i:Int} (_:Set6 v m) (hj:v[j]? = some i):K.num (v.take (j + 1))=K.num (v.take j) + 2 ^ i.toNat:=by
 obtain ⟨hk,e⟩:=List.getElem?_eq_some_iff.1 hj
 rw [List.take_succ_eq_append_getElem hk,e,num_snoc]
end K
structure Sh where
 A:Option Addr
 n:Nat
 c:Nat
 l:List Int
def Sh.val (s:Sh):Value:=.slice s.A s.n s.c
def ShBlk (w:World) (gb:Nat) (shs:List Sh):Prop:=w.heap[gb]? = some (.cells (shs.map Sh.val).toArray 48 (0,0))
def PlBlk (w:World) (b mb gb:Nat) (x:Cs):Prop :=
 w.heap[b]? = some (.cells #[.int .i64 x.nd,.slice x.A x.n x.c,.slice x.SA x.sn x.sc,.slice x.B x.m x.d,.slice (some ⟨gb,0,none⟩) x.sn x.sn,.map (some mb)] 100 (0,0))
def TourAt (w:World) (X:Nat→Prop) (k:Int) (b:Option K.Tr) (v:Value):Prop:=match b with
 | none=>v=.pointer none
 | some t=>∃ g A n c A' n' c',v=.pointer (some ⟨g,0,none⟩)∧TBlk w g k (.slice A n c) (.slice A' n' c') t.end_∧Ints w A n t.stops∧Ints w A' n' t.times∧¬ X g∧(0 < n→∀ ad,A=some ad→¬ X ad.block)∧(0 < n'→∀ ad,A'=some ad→¬ X ad.block)∧n≤c∧n'≤c'
theorem TourAt.ext {w w':World} {X:Nat→Prop} {k:Int} {b:Option K.Tr} {v:Value} (h:TourAt w X k b v) (hx:Ext w w'):TourAt w' X k b v:=by
 cases b with
 | none=>exact h
 | some t =>
  obtain ⟨g,A,n,c,A',n',c',h1,h2,h3,h4,h5⟩:=h
  exact ⟨g,A,n,c,A',n',c',h1,hx.cells _ _ _ _ h2,h3.ext hx,h4.ext hx,h5⟩
open Go.WideMaps Go.Maps Go.WideShapes
theorem row131:(159:TypeId) < Tryz.prog.types.size:=of_decide_eq_true (by kernel_rfl)
theorem wide131:(match Tryz.prog.underlying 159 with | some (.array _ _) | some (.struct _)=>true | _=>false)=true:=by rw [Tryz.underlying159]
set_option maxRecDepth 100000 in
theorem pairLaw:Keyed Tryz.prog 159:=Keyed.of_law (deep_law_laid laidOut (m:=2) (by omega) row131 (by kernel_rfl) wide131)
theorem cells131:Tryz.prog.cellsOf 159=2:=by kernel_rfl
set_option maxRecDepth 100000 in
theorem pairType:Tryz.prog.keyType 159=true:=by kernel_rfl
set_option maxRecDepth 4000 in
theorem pairKey {f k:Int} (hf:(Lit.int .i64 f).wf=true) (hk:(Lit.int .i64 k).wf=true):∃ l,keyOf Tryz.prog 159 (.agg #[.int .i64 f,.int .i64 k])=some l:=by
 unfold keyOf
 rw [Tryz.underlying159]
 simp only [pairType,Bool.true_and,Value.formed,Tryz.underlying159,cells131]
 have hp:=typesPos
 generalize Tryz.prog.types.size=N at *
 obtain ⟨M,rfl⟩:∃ M,N=M + 1:=⟨N - 1,by omega⟩
 have h1:Tryz.prog.keyLits (M + 1 + 1) 159 [.int .i64 f,.int .i64 k] = some ([Lit.int .i64 f] ++ [Lit.int .i64 k]):=by
  simp [Program.keyLits,Tryz.underlying159,Tryz.underlying3,cells131,cells3,show List.range 2=[0,1] from rfl,hf,hk]
 have h2:(Value.agg #[Value.int IntKind.i64 f,Value.int IntKind.i64 k]).cells.toList=[.int .i64 f,.int .i64 k]:=rfl
 rw [h2,h1]
 exact ⟨_,rfl⟩
def Memo32 (w:World) (mb:Nat) (x:Cs) (X:Nat→Prop):Prop :=
 ∃ es clock,w.heap[mb]? = some (.map es clock)∧∀ e ∈ es.toList,∃ (k:Nat) (s:S) (m:Nat),x.ss[k]? = some s∧k≤1000000∧m < 64∧e.key=.agg #[.int .i64 (k:Int),.int .i64 (m:Int)]∧TourAt w X k (K.best x.nd x.l s x.r (K.part (K.iota 6) m)) e.val
theorem Memo32.ext {w w':World} {mb:Nat} {x:Cs} {X:Nat→Prop} (h:Memo32 w mb x X) (hg:w.grownBy w' (some mb)):Ext w w':=by
 obtain ⟨es,clock,hm,-⟩:=h
 exact Ext.of_grown hm hg
theorem Memo32.keep {w w':World} {mb:Nat} {x:Cs} {X:Nat→Prop} (h:Memo32 w mb x X) (he:Ext w w') (hm:w'.heap[mb]? = w.heap[mb]?):Memo32 w' mb x X:=by
 obtain ⟨es,clock,hb,hes⟩:=h
 refine ⟨es,clock,hm.trans hb,fun e he'=>?_⟩
 obtain ⟨k,s,m,h1,h2,h3,h4,h5⟩:=hes e he'
 exact ⟨k,s,m,h1,h2,h3,h4,h5.ext he⟩
theorem Memo32.below {w w':World} {mb:Nat} {x:Cs} {X:Nat→Prop} (h:Memo32 w mb x X) (hb:Below w.heap.size w w'):Memo32 w' mb x X:=by
 have h1:=h
 obtain ⟨es,clock,hm,-⟩:=h1
 exact h.keep (Ext.below hb) (hb.block mb (Array.getElem?_eq_some_iff.1 hm).1)
theorem wf_nat {k:Nat} (h:k≤1000000):(Lit.int .i64 (k:Int)).wf=true:=wf_small (by omega) (by omega)
open Go.MapKept Go.ChangeMaps in
theorem Memo32.look {w:World} {mb:Nat} {x:Cs} {X:Nat→Prop} (h:Memo32 w mb x X) {k m:Nat} {s:S} (hs:x.ss[k]? = some s) (hk:k≤1000000) (hm:m < 64) :
  ∃ v ok,(Instr.lookup 98 (.map (some mb)) (.agg #[.int .i64 (k:Int),.int .i64 (m:Int)]) true).run Tryz.prog w=.ok (.tuple #[v,.bool ok]) w∧(ok=true→TourAt w X k (K.best x.nd x.l s x.r (K.part (K.iota 6) m)) v)∧(ok=false→v=.pointer none):=by
 obtain ⟨es,clock,hb,hes⟩:=h
 obtain ⟨kl,hkey⟩:=pairKey (wf_nat hk) (wf_nat (k:=m) (by omega))
 have hkeys:∀ e ∈ es.toList,∃ l,keyOf Tryz.prog 159 e.key=some l:=fun e he=>by
  obtain ⟨k',s',m',-,h2,h3,h4,-⟩:=hes e he
  rw [h4];exact pairKey (wf_nat h2) (wf_nat (k:=m') (by omega))
 rcases pairLaw.find w hkey es.toList hkeys with ⟨h1,h2⟩ | ⟨j,e0,h1,h2,h3⟩
 ·refine ⟨.pointer none,false,?_,fun e=>(nomatch e),fun _=>rfl⟩
  simp [Instr.lookup,run_underlying Tryz.underlying98,MapKept.run_getObj_map hb,pairLaw.check w _ hkey,h1,Result.andThen]
 ·obtain ⟨k',s',m',g1,-,-,g4,g5⟩:=hes e0 (List.mem_of_getElem? h2)
  rw [h3] at g4
  injection g4 with g4
  simp at g4
  obtain ⟨e1,e2⟩:=g4
  have e1:k=k':=by omega
  have e2:m=m':=by omega
  subst e1 e2
  rw [hs] at g1
  injection g1 with g1
  subst g1
  refine ⟨e0.val,true,?_,fun _=>g5,fun e=>(nomatch e)⟩
  simp [Instr.lookup,run_underlying Tryz.underlying98,MapKept.run_getObj_map hb,pairLaw.check w _ hkey,h1,Result.andThen]
open Go.MapKept Go.ChangeMaps in
theorem Memo32.store {w:World} {mb:Nat} {x:Cs} {X:Nat→Prop} (h:Memo32 w mb x X) {k m:Nat} {s:S} (hs:x.ss[k]? = some s) (hk:k≤1000000) (hm:m < 64) {v:Value} (hv:TourAt w X k (K.best x.nd x.l s x.r (K.part (K.iota 6) m)) v) :
  ∃ w',(Instr.mapUpdate 98 (.map (some mb)) (.agg #[.int .i64 (k:Int),.int .i64 (m:Int)]) v).run Tryz.prog w=.ok () w'∧Memo32 w' mb x X∧w.grownBy w' (some mb):=by
 obtain ⟨es,clock,hb,hes⟩:=h
 obtain ⟨kl,hkey⟩:=pairKey (wf_nat hk) (wf_nat (k:=m) (by omega))
 have hkeys:∀ e ∈ es.toList,∃ l,keyOf Tryz.prog 159 e.key=some l:=fun e he=>by
  obtain ⟨k',s',m',-,h2,h3,h4,-⟩:=hes e he
  rw [h4];exact pairKey (wf_nat h2) (wf_nat (k:=m') (by omega))
 have hgr:∀ es' clock',w.grownBy (setBlock w mb (.map es' clock')) (some mb):=fun es' clock'=>⟨rfl,rfl,rfl,by simp [setBlock],fun i _ hi=>heap_setBlock_other hb _ (fun e=>hi (by rw [e]))⟩
 have hmk:∀ es' clock',(∀ e ∈ es'.toList,e ∈ es.toList∨(e.key=.agg #[.int .i64 (k:Int),.int .i64 (m:Int)]∧e.val=v))→Memo32 (setBlock w mb (.map es' clock')) mb x X:=fun es' clock' he=>by
  have hx:=Ext.of_grown hb (hgr es' clock')
  refine ⟨es',clock',heap_setBlock_same hb _,fun e h9=>?_⟩
  rcases he e h9 with h9 | ⟨h9,h10⟩
  ·obtain ⟨k',s',m',h1,h2,h3,h4,h5⟩:=hes e h9
   exact ⟨k',s',m',h1,h2,h3,h4,h5.ext hx⟩
  ·exact ⟨k,s,m,hs,hk,hm,h9,by rw [h10];exact hv.ext hx⟩
 rcases pairLaw.find w hkey es.toList hkeys with ⟨h1,h2⟩ | ⟨j,e0,h1,h2,h3⟩
 ·refine ⟨setBlock w mb (.map (es.push ⟨.agg #[.int .i64 (k:Int),.int .i64 (m:Int)],v,clock⟩) (clock + 1)),?_,hmk _ _ ?_,hgr _ _⟩
  ·simp [Instr.mapUpdate,run_underlying Tryz.underlying98,MapKept.run_getObj_map hb,pairLaw.check w false hkey,h1,MapKept.run_setObj_map _ hb,Result.andThen,setBlock]
  ·intro e he
   simp only [Array.toList_push,List.mem_append,List.mem_singleton] at he
   rcases he with he | rfl
   ·exact .inl he
   ·exact .inr ⟨rfl,rfl⟩
 ·have hj:es[j]? = some e0:=by simpa using h2
  refine ⟨setBlock w mb (.map (es.modify j fun e=>{ e with key:=.agg #[.int .i64 (k:Int),.int .i64 (m:Int)],val:=v }) clock),?_,hmk _ _ ?_,hgr _ _⟩
  ·simp [Instr.mapUpdate,run_underlying Tryz.underlying98,MapKept.run_getObj_map hb,pairLaw.check w false hkey,h1,hj,h3,pairLaw.stays w hkey,MapKept.run_setObj_map _ hb,Result.andThen,setBlock]
  ·intro e he
   rw [Array.mem_toList_iff,Array.mem_iff_getElem?] at he
   obtain ⟨i,he⟩:=he
   rw [Array.getElem?_modify] at he
   by_cases hij:j=i
   ·rw [if_pos hij,←hij,hj] at he
    simp at he
    subst he
    exact .inr ⟨rfl,rfl⟩
   ·rw [if_neg hij] at he
    exact .inl (by rw [Array.mem_toList_iff,Array.mem_iff_getElem?];exact ⟨i,he⟩)
structure PlAt (w0 w:World) (b mb gb:Nat) (x:Cs) (X:Nat→Prop) (shs:List Sh):Prop where
 case:CsAt w0 x
 bw:Below w0.heap.size w0 w
 hb:w0.heap.size≤b
 hm:w0.heap.size≤mb
 hg:w0.heap.size≤gb
 blk:PlBlk w b mb gb x
 sh:ShBlk w gb shs
 len:shs.length=x.sn
 ints:∀ s ∈ shs,Ints w s.A s.n s.l∧s.n≤s.c
 memo:Memo32 w mb x X
 ok:K.pcheck x.nd x.l x.ss x.r=0
 away:∀ g,X g→w0.heap.size≤g∧g ≠ b∧g ≠ mb∧g ≠ gb∧∀ s ∈ shs,0 < s.n→∀ ad,s.A=some ad→ad.block ≠ g
theorem PlAt.keep {w0 w w':World} {b mb gb:Nat} {x:Cs} {X:Nat→Prop} {shs:List Sh} (h:PlAt w0 w b mb gb x X shs) (hb:Below w0.heap.size w0 w') (he:Ext w w') (hm:Memo32 w' mb x X):PlAt w0 w' b mb gb x X shs :=
 ⟨h.case,hb,h.hb,h.hm,h.hg,he.cells _ _ _ _ h.blk,he.cells _ _ _ _ h.sh,h.len,fun s hs=>⟨(h.ints s hs).1.ext he,(h.ints s hs).2⟩,hm,h.ok,h.away⟩
theorem PlAt.below {w0 w w':World} {b mb gb:Nat} {x:Cs} {X:Nat→Prop} {shs:List Sh} (h:PlAt w0 w b mb gb x X shs) (hb:Below w.heap.size w w'):PlAt w0 w' b mb gb x X shs :=
 h.keep (bel h.bw hb) (Ext.below hb) (h.memo.below hb)
theorem PlAt.grown {w0 w w':World} {b mb gb:Nat} {x:Cs} {X:Nat→Prop} {shs:List Sh} (h:PlAt w0 w b mb gb x X shs) (hg:w.grownBy w' (some mb)) (hm:Memo32 w' mb x X):PlAt w0 w' b mb gb x X shs :=
 h.keep (below_own2 h.bw hg (fun k e=>by injection e with e;rw [←e];exact h.hm)) (h.memo.ext hg) hm
def NoX:Nat→Prop:=fun _=>False
theorem TourAt.more {w:World} {X Y:Nat→Prop} {k:Int} {b:Option K.Tr} {v:Value} (h:TourAt w X k b v) (hY:∀ g,g < w.heap.size→Y g→X g):TourAt w Y k b v:=by
 cases b with
 | none=>exact h
 | some t =>
  obtain ⟨g,A,n,c,A',n',c',h1,h2,h3,h4,h5,h6,h7,h8⟩:=h
  have hlt:∀ {A:Option Addr} {n:Nat} {l:List Int},Ints w A n l→0 < n→∀ ad,A=some ad→ad.block < w.heap.size:=fun hI h0 ad e=>by
   obtain ⟨ad',y,e',-,hc⟩:=hI.at_ h0
   rw [e] at e'
   injection e' with e'
   rw [e']
   exact cell_lt hc
  exact ⟨g,A,n,c,A',n',c',h1,h2,h3,h4,fun hy=>h5 (hY _ (lt_of_block h2) hy),fun h0 ad e hy=>h6 h0 ad e (hY _ (hlt h3 h0 ad e) hy),fun h0 ad e hy=>h7 h0 ad e (hY _ (hlt h4 h0 ad e) hy),h8⟩
theorem Memo32.more {w:World} {mb:Nat} {x:Cs} {X Y:Nat→Prop} (h:Memo32 w mb x X) (hY:∀ g,g < w.heap.size→Y g→X g):Memo32 w mb x Y:=by
 obtain ⟨es,clock,hb,hes⟩:=h
 refine ⟨es,clock,hb,fun e he'=>?_⟩
 obtain ⟨k,s,m,h1,h2,h3,h4,h5⟩:=hes e he'
 exact ⟨k,s,m,h1,h2,h3,h4,h5.more hY⟩
theorem PlAt.cs {w0 w:World} {b mb gb:Nat} {x:Cs} {X:Nat→Prop} {shs:List Sh} (h:PlAt w0 w b mb gb x X shs):CsAt w x:=h.case.below h.bw
theorem PlAt.one {w0 w:World} {b mb gb:Nat} {x:Cs} {X:Nat→Prop} {shs:List Sh} (h:PlAt w0 w b mb gb x X shs) {s:S} (hs:s ∈ x.ss):At w (x.one s):=h.cs.case hs
end Go.Proofs.YtippdjmpkafifaaGreat
namespace Go.Proofs.YtippdjmpkafifaaGreat
open Go.RowKit
def RetPl (x:Cs) (w w':World) (e:Ending):Prop:=∃ b mb gb,e=.returned (.pointer (some ⟨b,0,none⟩))∧PlAt w w' b mb gb x NoX (List.replicate x.sn ⟨none,0,0,[]⟩)
theorem retPl_mk {x:Cs} {w w':World} {b mb gb:Nat} (hx:CsAt w x) (hok:K.pcheck x.nd x.l x.ss x.r=0) (hb:Below w.heap.size w w') (h1:w.heap.size≤b) (h2:w.heap.size≤mb) (h3:w.heap.size≤gb) (hp:PlBlk w' b mb gb x)
  (hs:w'.heap[gb]? = some (.cells (List.replicate x.sn (Value.slice none 0 0)).toArray 48 (0,0))) (hm:w'.heap[mb]? = some (.map #[] 0)):RetPl x w w' (.returned (.pointer (some ⟨b,0,none⟩))):=by
 refine ⟨b,mb,gb,rfl,hx,hb,h1,h2,h3,hp,?_,by simp,fun s h=>?_,⟨#[],0,hm,fun e he=>by simp at he⟩,hok,fun g hg=>hg.elim⟩
 ·unfold ShBlk
  rw [hs,List.map_replicate]
  rfl
 ·rw [List.eq_of_mem_replicate h]
  exact ⟨ints_nil _,Nat.le_refl _⟩
set_option maxRecDepth 100000 in
set_option maxHeartbeats 16000000 in
theorem start32_any (x:Cs) (w:World) (hx:CsAt w x) (hok:K.pcheck x.nd x.l x.ss x.r=0) :
  Calls Tryz.prog 66 #[.agg #[.int .i64 x.nd,.slice x.A x.n x.c],.slice x.SA x.sn x.sc,.slice x.B x.m x.d] w fun e w'=>RetPl x w w' e:=by
 have hN:=Net.new w x.nd x.A x.n x.c
 have z1:=World.size_alloc w (.cells #[.int .i64 x.nd,.slice x.A x.n x.c] 24)
 have b1:Below w.heap.size w (w.alloc (.cells #[.int .i64 x.nd,.slice x.A x.n x.c] 24)):=(Below.refl _ _).alloc (Nat.le_refl _) _
 obtain ⟨w1,hw1⟩:∃ w1:World,w1=w.alloc (.cells #[.int .i64 x.nd,.slice x.A x.n x.c] 24):=⟨_,rfl⟩
 have hsn:x.sn≤1000000:=by have:=(K.pcheck_ok hok).2.1;rw [hx.shifts.1.1];omega
 go_enter Tryz.func66,Tryz.ntmps66
 go_wp2_with fail
 rw [←hw1] at hN z1 b1 ⊢
 clear hw1
 have hmk:=fun w'=>make_rows x.sn hsn w'
 have hmm:=@run_makeMap Tryz.prog
 have hS:∀ w',Below w1.heap.size w1 w'→(fun w':World=>Below w1.heap.size w1 w'∧w'.cell? ⟨w.heap.size,0,none⟩=some (.int .i64 x.nd)∧w'.cell? ⟨w.heap.size,1,none⟩=some (.slice x.A x.n x.c)) w':=fun w' h=>⟨h,(hN.below h).c0,(hN.below h).c1⟩
 have S0:=hS _ (Below.refl _ _)
 have hSd:∀ w',(fun w':World=>Below w1.heap.size w1 w'∧w'.cell? ⟨w.heap.size,0,none⟩=some (.int .i64 x.nd)∧w'.cell? ⟨w.heap.size,1,none⟩=some (.slice x.A x.n x.c)) w'→(fun w':World=>Below w1.heap.size w1 w'∧w'.cell? ⟨w.heap.size,0,none⟩=some (.int .i64 x.nd)∧w'.cell? ⟨w.heap.size,1,none⟩=some (.slice x.A x.n x.c)) w'.drew:=fun w' h=>hS _ h.1.drew
 have hSa:∀ w' o,(fun w':World=>Below w1.heap.size w1 w'∧w'.cell? ⟨w.heap.size,0,none⟩=some (.int .i64 x.nd)∧w'.cell? ⟨w.heap.size,1,none⟩=some (.slice x.A x.n x.c)) w'→(fun w':World=>Below w1.heap.size w1 w'∧w'.cell? ⟨w.heap.size,0,none⟩=some (.int .i64 x.nd)∧w'.cell? ⟨w.heap.size,1,none⟩=some (.slice x.A x.n x.c)) (w'.alloc o):=fun w' o h=>hS _ (bel h.1 ((Below.refl _ _).alloc (Nat.le_refl _) _))
 go_region_held3 (fun w':World=>Below w1.heap.size w1 w'∧w'.cell? ⟨w.heap.size,0,none⟩=some (.int .i64 x.nd)∧w'.cell? ⟨w.heap.size,1,none⟩=some (.slice x.A x.n x.c))
  (first | assumption | exact S0 | exact hSd _ S0 | exact hSd _ (by assumption) | exact hSa _ _ (by assumption) | exact hSa _ _ (hSa _ _ (by assumption)) | exact hSa _ _ (hSd _ S0))
  (fail)
 ·go_wp2_with fail
  go_ret
  have za:=World.size_alloc w1 (.cells (Array.replicate x.sn (Value.slice none 0 0)) 48)
  have zb:=World.size_alloc (w1.alloc (.cells (Array.replicate x.sn (Value.slice none 0 0)) 48)) (.map #[] 0)
  refine retPl_mk (mb:=w.heap.size + 1 + 1) (gb:=w.heap.size + 1) hx hok (bel b1 (bel (bel ((Below.refl _ _).alloc (Nat.le_refl _) _) ((Below.refl _ _).alloc (Nat.le_refl _) _)) (((Below.refl _ _).alloc (Nat.le_refl _) _).drew))) (by omega) (by omega) (by omega) ?_ ?_ ?_
  ·exact heap_alloc_at _ _ _ (by rw [zb,za,z1])
  ·exact blk_alloc (blk_alloc (heap_alloc_at _ _ _ z1.symm) _) _ |>.trans (by simp)
  ·exact blk_alloc (heap_alloc_at _ _ _ (by rw [za,z1])) _
 ·go_wp2_with fail
  go_ret
  have za:=World.size_alloc w1 (.map #[] 0)
  have zb:=World.size_alloc (w1.alloc (.map #[] 0)) (.cells (Array.replicate x.sn (Value.slice none 0 0)) 48)
  refine retPl_mk (mb:=w.heap.size + 1) (gb:=w.heap.size + 1 + 1) hx hok (bel b1 (bel (bel ((Below.refl _ _).alloc (Nat.le_refl _) _) ((Below.refl _ _).alloc (Nat.le_refl _) _)) (((Below.refl _ _).alloc (Nat.le_refl _) _).drew))) (by omega) (by omega) (by omega) ?_ ?_ ?_
  ·exact heap_alloc_at _ _ _ (by rw [zb,za,z1])
  ·exact blk_alloc (heap_alloc_at _ _ _ (by rw [za,z1])) _ |>.trans (by simp)
  ·exact blk_alloc (blk_alloc (heap_alloc_at _ _ _ z1.symm) _) _
def RetTB (w0 w w':World) (b mb gb:Nat) (x:Cs) (X:Nat→Prop) (shs:List Sh) (k:Nat) (t:Option K.Tr) (e:Ending):Prop :=
 (∃ u,e=.returned u∧TourAt w' X k t u)∧w.grownBy w' (some mb)∧PlAt w0 w' b mb gb x X shs
theorem Ints.lt_of {w:World} {A:Option Addr} {n:Nat} {l:List Int} (h:Ints w A n l) (h0:0 < n) {ad:Addr} (e:A=some ad):ad.block < w.heap.size:=by
 obtain ⟨ad',y,e',-,hc⟩:=h.at_ h0
 rw [e] at e'
 injection e' with e'
 rw [e']
 exact cell_lt hc
theorem Ints.set1 {w:World} {A:Option Addr} {n:Nat} {l:List Int} (h:Ints w A n l) {g i:Nat} (u:Value) (hg:0 < n→∀ ad,A=some ad→ad.block ≠ g):Ints (w.setCell ⟨g,i,none⟩ u) A n l:=by
 by_cases h0:0 < n
 ·exact h.set u (hg h0)
 ·exact ⟨h.1,h.2.1,fun h1=>absurd h1 h0⟩
def KBlk (w:World) (H:Nat) (k m:Int):Prop:=w.heap[H]? = some (.cells #[.int .i64 k,.int .i64 m] 159 (0,0))
def BCells (b mb gb H k m:Nat) (x:Cs) (s:S) (ad:Addr) (w':World):Prop:=(fun w':World=>w'.cell? ⟨H,0,none⟩=some (.int .i64 (k:Int))∧w'.cell? ⟨H,1,none⟩=some (.int .i64 (m:Int))∧w'.cell? ⟨b,0,none⟩=some (.int .i64 x.nd)∧w'.cell? ⟨b,1,none⟩=some (.slice x.A x.n x.c)∧w'.cell? ⟨b,2,none⟩=some (.slice (some ad) x.sn x.sc)∧w'.cell? ⟨b,3,none⟩=some (.slice x.B x.m x.d)∧w'.cell? ⟨b,4,none⟩=some (.slice (some ⟨gb,0,none⟩) x.sn x.sn)∧w'.cell? ⟨b,5,none⟩=some (.map (some mb))∧w'.cell? (ad.add (k * 6))=some (.int .i64 s.day)∧w'.cell? ⟨(ad.add (k * 6)).block,(ad.add (k * 6)).off + 1,none⟩=some (.int .i64 s.depot)∧w'.cell? ⟨(ad.add (k * 6)).block,(ad.add (k * 6)).off + 2,none⟩=some (.int .i64 s.start)∧w'.cell? ⟨(ad.add (k * 6)).block,(ad.add (k * 6)).off + 3,none⟩=some (.int .i64 s.end_)∧w'.cell? ⟨(ad.add (k * 6)).block,(ad.add (k * 6)).off + 4,none⟩=some (.int .i64 s.tare)∧w'.cell? ⟨(ad.add (k * 6)).block,(ad.add (k * 6)).off + 5,none⟩=some (.slice s.A s.n s.c)) w'
theorem BCells.mk' {w w':World} {b mb gb H k m:Nat} {x:Cs} {s:S} {ad:Addr} (hK:KBlk w H k m) (hb:PlBlk w b mb gb x) (hA:x.SA=some ad) (hs:x.ss[k]? = some s) (hx:CsAt w x) (he:Ext w w'):BCells b mb gb H k m x s ad w':=by
 have hb':PlBlk w' b mb gb x:=he.cells _ _ _ _ hb
 have hK':KBlk w' H k m:=he.cells _ _ _ _ hK
 have hlt:k < x.sn:=by rw [hx.shifts.1.1];exact (List.getElem?_eq_some_iff.1 hs).1
 obtain ⟨ad',s',hA',hs',-,c0,c1,c2,c3,c4,c5⟩:=(hx.ext he).shifts.at_ hlt
 rw [hA] at hA'
 injection hA' with hA'
 subst hA'
 rw [hs] at hs'
 injection hs' with hs'
 subst hs'
 refine ⟨blk_cell hK' 0 _ rfl,blk_cell hK' 1 _ rfl,blk_cell hb' 0 _ rfl,blk_cell hb' 1 _ rfl,?_,blk_cell hb' 3 _ rfl,blk_cell hb' 4 _ rfl,blk_cell hb' 5 _ rfl,c0,c1,c2,c3,c4,c5⟩
 rw [←hA]
 exact blk_cell hb' 2 _ rfl
def Old (w:World) (g:Nat):Prop:=g < w.heap.size
def NT (w:World) (ts:List TV):Prop:=∀ y ∈ ts,(0 < y.n→∀ ad,y.A=some ad→w.heap.size≤ad.block)∧(0 < y.n'→∀ ad,y.A'=some ad→w.heap.size≤ad.block)∧y.n≤y.c∧y.n'≤y.c'
theorem NT.snoc {w:World} {ts:List TV} (h:NT w ts) {y:TV} (h1:0 < y.n→∀ ad,y.A=some ad→w.heap.size≤ad.block) (h2:0 < y.n'→∀ ad,y.A'=some ad→w.heap.size≤ad.block) (h3:y.n≤y.c∧y.n'≤y.c'):NT w (ts ++ [y]):=fun z hz=>by
 rcases List.mem_append.1 hz with hz | hz
 ·exact h z hz
 ·rw [List.mem_singleton.1 hz];exact ⟨h1,h2,h3⟩
structure PlAz (w0 w:World) (b mb gb:Nat) (x:Cs) (X:Nat→Prop) (shs:List Sh):Prop where
 case:CsAt w0 x
 bw:Below w0.heap.size w0 w
 hb:w0.heap.size≤b
 hm:w0.heap.size≤mb
 hg:w0.heap.size≤gb
 blk:PlBlk w b mb gb x
 sh:ShBlk w gb shs
 len:shs.length=x.sn
 ints:∀ s ∈ shs,Ints w s.A s.n s.l∧s.n≤s.c
 memo:Memo32 w mb x X
 ok:K.pcheck x.nd x.l x.ss x.r=0
 away:∀ g,X g→0≤g∧g ≠ b∧g ≠ mb∧g ≠ gb∧∀ s ∈ shs,0 < s.n→∀ ad,s.A=some ad→ad.block ≠ g
theorem PlAz.keep {w0 w w':World} {b mb gb:Nat} {x:Cs} {X:Nat→Prop} {shs:List Sh} (h:PlAz w0 w b mb gb x X shs) (hb:Below w0.heap.size w0 w') (he:Ext w w') (hm:Memo32 w' mb x X):PlAz w0 w' b mb gb x X shs :=
 ⟨h.case,hb,h.hb,h.hm,h.hg,he.cells _ _ _ _ h.blk,he.cells _ _ _ _ h.sh,h.len,fun s hs=>⟨(h.ints s hs).1.ext he,(h.ints s hs).2⟩,hm,h.ok,h.away⟩
theorem PlAz.below {w0 w w':World} {b mb gb:Nat} {x:Cs} {X:Nat→Prop} {shs:List Sh} (h:PlAz w0 w b mb gb x X shs) (hb:Below w.heap.size w w'):PlAz w0 w' b mb gb x X shs :=
 h.keep (bel h.bw hb) (Ext.below hb) (h.memo.below hb)
theorem PlAz.grown {w0 w w':World} {b mb gb:Nat} {x:Cs} {X:Nat→Prop} {shs:List Sh} (h:PlAz w0 w b mb gb x X shs) (hg:w.grownBy w' (some mb)) (hm:Memo32 w' mb x X):PlAz w0 w' b mb gb x X shs :=
 h.keep (below_own2 h.bw hg (fun k e=>by injection e with e;rw [←e];exact h.hm)) (h.memo.ext hg) hm
theorem PlAz.cs {w0 w:World} {b mb gb:Nat} {x:Cs} {X:Nat→Prop} {shs:List Sh} (h:PlAz w0 w b mb gb x X shs):CsAt w x:=h.case.below h.bw
theorem PlAz.one {w0 w:World} {b mb gb:Nat} {x:Cs} {X:Nat→Prop} {shs:List Sh} (h:PlAz w0 w b mb gb x X shs) {s:S} (hs:s ∈ x.ss):At w (x.one s):=h.cs.case hs
def RetPlX (x:Cs) (w w':World) (e:Ending):Prop:=∃ b mb gb,e=.returned (.pointer (some ⟨b,0,none⟩))∧∀ X:Nat→Prop,(∀ g,X g→g < w.heap.size)→PlAz w w' b mb gb x X (List.replicate x.sn ⟨none,0,0,[]⟩)
theorem retPlX_mk {x:Cs} {w w':World} {b mb gb:Nat} (hx:CsAt w x) (hok:K.pcheck x.nd x.l x.ss x.r=0) (hb:Below w.heap.size w w') (h1:w.heap.size≤b) (h2:w.heap.size≤mb) (h3:w.heap.size≤gb) (hp:PlBlk w' b mb gb x)
  (hs:w'.heap[gb]? = some (.cells (List.replicate x.sn (Value.slice none 0 0)).toArray 48 (0,0))) (hm:w'.heap[mb]? = some (.map #[] 0)):RetPlX x w w' (.returned (.pointer (some ⟨b,0,none⟩))):=by
 refine ⟨b,mb,gb,rfl,fun X hX=>⟨hx,hb,h1,h2,h3,hp,?_,by simp,fun s h=>?_,⟨#[],0,hm,fun e he=>by simp at he⟩,hok,fun g hg=>⟨Nat.zero_le _,by have:=hX g hg;omega,by have:=hX g hg;omega,by have:=hX g hg;omega,fun s hs h0=>absurd h0 (by rw [List.eq_of_mem_replicate hs];exact Nat.lt_irrefl _)⟩⟩⟩
 ·unfold ShBlk
  rw [hs,List.map_replicate]
  rfl
 ·rw [List.eq_of_mem_replicate h]
  exact ⟨ints_nil _,Nat.le_refl _⟩
set_option maxRecDepth 100000 in
set_option maxHeartbeats 16000000 in
theorem start32X (x:Cs) (w:World) (hx:CsAt w x) (hok:K.pcheck x.nd x.l x.ss x.r=0) :
  Calls Tryz.prog 66 #[.agg #[.int .i64 x.nd,.slice x.A x.n x.c],.slice x.SA x.sn x.sc,.slice x.B x.m x.d] w fun e w'=>RetPlX x w w' e:=by
 have hN:=Net.new w x.nd x.A x.n x.c
 have z1:=World.size_alloc w (.cells #[.int .i64 x.nd,.slice x.A x.n x.c] 24)
 have b1:Below w.heap.size w (w.alloc (.cells #[.int .i64 x.nd,.slice x.A x.n x.c] 24)):=(Below.refl _ _).alloc (Nat.le_refl _) _
 obtain ⟨w1,hw1⟩:∃ w1:World,w1=w.alloc (.cells #[.int .i64 x.nd,.slice x.A x.n x.c] 24):=⟨_,rfl⟩
 have hsn:x.sn≤1000000:=by have:=(K.pcheck_ok hok).2.1;rw [hx.shifts.1.1];omega
 go_enter Tryz.func66,Tryz.ntmps66
 go_wp2_with fail
 rw [←hw1] at hN z1 b1 ⊢
 clear hw1
 have hmk:=fun w'=>make_rows x.sn hsn w'
 have hmm:=@run_makeMap Tryz.prog
 have hS:∀ w',Below w1.heap.size w1 w'→(fun w':World=>Below w1.heap.size w1 w'∧w'.cell? ⟨w.heap.size,0,none⟩=some (.int .i64 x.nd)∧w'.cell? ⟨w.heap.size,1,none⟩=some (.slice x.A x.n x.c)) w':=fun w' h=>⟨h,(hN.below h).c0,(hN.below h).c1⟩
 have S0:=hS _ (Below.refl _ _)
 have hSd:∀ w',(fun w':World=>Below w1.heap.size w1 w'∧w'.cell? ⟨w.heap.size,0,none⟩=some (.int .i64 x.nd)∧w'.cell? ⟨w.heap.size,1,none⟩=some (.slice x.A x.n x.c)) w'→(fun w':World=>Below w1.heap.size w1 w'∧w'.cell? ⟨w.heap.size,0,none⟩=some (.int .i64 x.nd)∧w'.cell? ⟨w.heap.size,1,none⟩=some (.slice x.A x.n x.c)) w'.drew:=fun w' h=>hS _ h.1.drew
 have hSa:∀ w' o,(fun w':World=>Below w1.heap.size w1 w'∧w'.cell? ⟨w.heap.size,0,none⟩=some (.int .i64 x.nd)∧w'.cell? ⟨w.heap.size,1,none⟩=some (.slice x.A x.n x.c)) w'→(fun w':World=>Below w1.heap.size w1 w'∧w'.cell? ⟨w.heap.size,0,none⟩=some (.int .i64 x.nd)∧w'.cell? ⟨w.heap.size,1,none⟩=some (.slice x.A x.n x.c)) (w'.alloc o):=fun w' o h=>hS _ (bel h.1 ((Below.refl _ _).alloc (Nat.le_refl _) _))
 go_region_held3 (fun w':World=>Below w1.heap.size w1 w'∧w'.cell? ⟨w.heap.size,0,none⟩=some (.int .i64 x.nd)∧w'.cell? ⟨w.heap.size,1,none⟩=some (.slice x.A x.n x.c))
  (first | assumption | exact S0 | exact hSd _ S0 | exact hSd _ (by assumption) | exact hSa _ _ (by assumption) | exact hSa _ _ (hSa _ _ (by assumption)) | exact hSa _ _ (hSd _ S0))
  (fail)
 ·go_wp2_with fail
  go_ret
  have za:=World.size_alloc w1 (.cells (Array.replicate x.sn (Value.slice none 0 0)) 48)
  have zb:=World.size_alloc (w1.alloc (.cells (Array.replicate x.sn (Value.slice none 0 0)) 48)) (.map #[] 0)
  refine retPlX_mk (mb:=w.heap.size + 1 + 1) (gb:=w.heap.size + 1) hx hok (bel b1 (bel (bel ((Below.refl _ _).alloc (Nat.le_refl _) _) ((Below.refl _ _).alloc (Nat.le_refl _) _)) (((Below.refl _ _).alloc (Nat.le_refl _) _).drew))) (by omega) (by omega) (by omega) ?_ ?_ ?_
  ·exact heap_alloc_at _ _ _ (by rw [zb,za,z1])
  ·exact blk_alloc (blk_alloc (heap_alloc_at _ _ _ z1.symm) _) _ |>.trans (by simp)
  ·exact blk_alloc (heap_alloc_at _ _ _ (by rw [za,z1])) _
 ·go_wp2_with fail
  go_ret
  have za:=World.size_alloc w1 (.map #[] 0)
  have zb:=World.size_alloc (w1.alloc (.map #[] 0)) (.cells (Array.replicate x.sn (Value.slice none 0 0)) 48)
  refine retPlX_mk (mb:=w.heap.size + 1) (gb:=w.heap.size + 1 + 1) hx hok (bel b1 (bel (bel ((Below.refl _ _).alloc (Nat.le_refl _) _) ((Below.refl _ _).alloc (Nat.le_refl _) _)) (((Below.refl _ _).alloc (Nat.le_refl _) _).drew))) (by omega) (by omega) (by omega) ?_ ?_ ?_
  ·exact heap_alloc_at _ _ _ (by rw [zb,za,z1])
  ·exact blk_alloc (heap_alloc_at _ _ _ (by rw [za,z1])) _ |>.trans (by simp)
  ·exact blk_alloc (blk_alloc (heap_alloc_at _ _ _ z1.symm) _) _
def RetTBz (w0 w w':World) (b mb gb:Nat) (x:Cs) (X:Nat→Prop) (shs:List Sh) (k:Nat) (t:Option K.Tr) (e:Ending):Prop :=
 (∃ u,e=.returned u∧TourAt w' X k t u)∧w.grownBy w' (some mb)∧PlAz w0 w' b mb gb x X shs
set_option maxRecDepth 100000 in
set_option maxHeartbeats 16000000 in
theorem best32z (w0:World) (b mb gb:Nat) (x:Cs) {X:Nat→Prop} (shs:List Sh) (k:Nat) (s:S) (V:Option Addr) (vn vc:Nat) (v:List Int) (w:World) (hp:PlAz w0 w b mb gb x X shs) (hX:∀ g,X g→g < w.heap.size) (hs:x.ss[k]? = some s) (hV:Ints w V vn v) (hvc:vn≤vc) (hvs:v.Pairwise (· < ·)) (hvb:∀ i ∈ v,0≤i∧i < (x.r.length:Int)) :
  Calls Tryz.prog 68 #[.pointer (some ⟨b,0,none⟩),.int .i64 k,.slice V vn vc] w fun e w'=>RetTBz w0 w w' b mb gb x X shs k (K.best x.nd x.l s x.r v) e:=by
 obtain ⟨h1,h2,h3,h4,h5⟩:=K.pcheck_ok hp.ok
 obtain ⟨m,h6⟩:=K.set6 hvs fun i hi=>by have:=hvb i hi;omega
 have hm:=h6.lt
 have hsm:=List.mem_of_getElem? hs
 have HOK:=Lib.hid (K.ok31_of hp.ok hsm hvs hvb)
 have hlt:k < x.ss.length:=(List.getElem?_eq_some_iff.1 hs).1
 have hsn:=hp.case.shifts.1.1
 have hksn:k < x.sn:=by rw [hsn];exact hlt
 have hk4:k≤4:=by omega
 have hk6:k≤1000000:=by omega
 have hv6:vn≤6:=by rw [hV.1];exact h6.len
 have HL:=Lib.hid hV.1
 have HS:=Lib.hid hs
 have H6:=Lib.hid h6
 obtain ⟨ad,-,hA,-⟩:=hp.cs.shifts.at_ hksn
 have HA:=Lib.hid hA
 have hw0H:w0.heap.size≤w.heap.size:=hp.bw.size
 clear h1 h2 h3 h4 h5 hvs hvb hsm hlt hsn hs h6 hA
 obtain ⟨w1,hw1⟩:∃ w1:World,w1=w.alloc (.cells #[.int .i64 k,.int .i64 0] 159):=⟨_,rfl⟩
 obtain ⟨H,hH⟩:∃ H,H=w.heap.size:=⟨_,rfl⟩
 have b1:Below w.heap.size w w1:=by rw [hw1];exact (Below.refl _ _).alloc (Nat.le_refl _) _
 have hK1:KBlk w1 H k 0:=by rw [hw1,hH];exact heap_alloc_new _ _
 have HH:=Lib.hid hH
 go_enter Tryz.func68,Tryz.ntmps68
 go_upto_region 3 with fail
 rw [←hw1,←hH]
 clear hw1 hH
 go_loopw [18] (fun v18 wr=>∃ j:Nat,v18=.int .i64 j∧j≤vn∧KBlk wr H k (K.num (v.take j))∧Below w.heap.size w wr) (fun v18 _=>vn - (intOf v18).toNat)
 case atStart=>exact ⟨0,rfl,Nat.zero_le _,hK1,b1⟩
 case round =>
  clear hK1 b1
  obtain ⟨j,rfl,hj,hK,hbr⟩:=hrel
  by_cases hlt:j < vn
  ·obtain ⟨adv,i,hVA,hi,ci⟩:=(hV.below hbr).at_ hlt
   obtain ⟨g1,g2,g3,g4⟩:=H6.out.at_ hi
   have HN:=Lib.hid (H6.out.next hi)
   obtain ⟨i,rfl⟩:∃ n:Nat,i=(n:Int):=⟨i.toNat,by omega⟩
   rw [Int.toNat_natCast] at g2 HN
   obtain ⟨nm,hnm⟩:∃ nm,nm=K.num (v.take j):=⟨_,rfl⟩
   rw [←hnm] at g1 g2 hK HN
   obtain ⟨mm,hmm⟩:∃ mm,mm=nm + 2 ^ i:=⟨_,rfl⟩
   have hor:bits BinOp.or IntKind.i64 (nm:Int) (IntKind.i64.wrap (2 ^ i))=(mm:Int):=by rw [wrap_pow (by omega),bit_or g1 (by omega) g2,hmm]
   have hor':bits BinOp.or IntKind.i64 (nm:Int) (wrap64 (2 ^ i))=(mm:Int):=by rw [←IntWalk.i64_left];exact hor
   have HM:=Lib.hid (show K.num (v.take (j + 1))=mm by rw [HN.out,hmm])
   have c0:=blk_cell hK 0 _ rfl
   have c1:=blk_cell hK 1 _ rfl
   have f1:=blk_free hK
   have k0:(0:Int)≤(j:Int):=by omega
   have k1:(j:Int) < (vn:Int):=by omega
   have k2:(0:Int)≤(i:Int):=by omega
   have k3:(i:Int) < 64:=by omega
   have HI6:=Lib.hid (show i < 6 by omega)
   clear hi hmm hnm HN g1 g2 g3 g4
   rw [hVA]
   go_wp2_with fail
   go_region
   go_wp2_with fail
   go_roundw
   case rel=>exact ⟨j + 1,by go_num,hlt,by rw [HM.out];exact blk_set hK 1 _,(hbr.setCell (by rw [HH.out];exact Nat.le_refl _) _).drew⟩
   case measure=>simp [intOf];omega
  ·have hK:KBlk wr H k m:=by
    have h9:=hK
    rw [List.take_of_length_le (by rw [←HL.out];omega),H6.out.num] at h9
    exact h9
   have hp1:=hp.below hbr
   have HP:=Lib.hid hp1
   have HK:=Lib.hid hK
   have HB:=Lib.hid hbr
   have hmk:∀ w',Below wr.heap.size wr w'→BCells b mb gb H k m x s ad w':=fun w' h=>BCells.mk' HK.out HP.out.blk HA.out HS.out HP.out.cs (Ext.below h)
   have hbd:Below wr.heap.size wr wr.drew:=(Below.refl _ _).drew
   have S0:(fun w':World=>w'.cell? ⟨H,0,none⟩=some (.int .i64 (k:Int))∧w'.cell? ⟨H,1,none⟩=some (.int .i64 (m:Int))∧w'.cell? ⟨b,0,none⟩=some (.int .i64 x.nd)∧w'.cell? ⟨b,1,none⟩=some (.slice x.A x.n x.c)∧w'.cell? ⟨b,2,none⟩=some (.slice (some ad) x.sn x.sc)∧w'.cell? ⟨b,3,none⟩=some (.slice x.B x.m x.d)∧w'.cell? ⟨b,4,none⟩=some (.slice (some ⟨gb,0,none⟩) x.sn x.sn)∧w'.cell? ⟨b,5,none⟩=some (.map (some mb))∧w'.cell? (ad.add (k * 6))=some (.int .i64 s.day)∧w'.cell? ⟨(ad.add (k * 6)).block,(ad.add (k * 6)).off + 1,none⟩=some (.int .i64 s.depot)∧w'.cell? ⟨(ad.add (k * 6)).block,(ad.add (k * 6)).off + 2,none⟩=some (.int .i64 s.start)∧w'.cell? ⟨(ad.add (k * 6)).block,(ad.add (k * 6)).off + 3,none⟩=some (.int .i64 s.end_)∧w'.cell? ⟨(ad.add (k * 6)).block,(ad.add (k * 6)).off + 4,none⟩=some (.int .i64 s.tare)∧w'.cell? ⟨(ad.add (k * 6)).block,(ad.add (k * 6)).off + 5,none⟩=some (.slice s.A s.n s.c)) wr:=hmk _ (Below.refl _ _)
   have S0d:(fun w':World=>w'.cell? ⟨H,0,none⟩=some (.int .i64 (k:Int))∧w'.cell? ⟨H,1,none⟩=some (.int .i64 (m:Int))∧w'.cell? ⟨b,0,none⟩=some (.int .i64 x.nd)∧w'.cell? ⟨b,1,none⟩=some (.slice x.A x.n x.c)∧w'.cell? ⟨b,2,none⟩=some (.slice (some ad) x.sn x.sc)∧w'.cell? ⟨b,3,none⟩=some (.slice x.B x.m x.d)∧w'.cell? ⟨b,4,none⟩=some (.slice (some ⟨gb,0,none⟩) x.sn x.sn)∧w'.cell? ⟨b,5,none⟩=some (.map (some mb))∧w'.cell? (ad.add (k * 6))=some (.int .i64 s.day)∧w'.cell? ⟨(ad.add (k * 6)).block,(ad.add (k * 6)).off + 1,none⟩=some (.int .i64 s.depot)∧w'.cell? ⟨(ad.add (k * 6)).block,(ad.add (k * 6)).off + 2,none⟩=some (.int .i64 s.start)∧w'.cell? ⟨(ad.add (k * 6)).block,(ad.add (k * 6)).off + 3,none⟩=some (.int .i64 s.end_)∧w'.cell? ⟨(ad.add (k * 6)).block,(ad.add (k * 6)).off + 4,none⟩=some (.int .i64 s.tare)∧w'.cell? ⟨(ad.add (k * 6)).block,(ad.add (k * 6)).off + 5,none⟩=some (.slice s.A s.n s.c)) wr.drew:=hmk _ hbd
   obtain ⟨val,ok,hlook,hy,hn⟩:=(hp1.memo.below hbd).look HS.out hk6 hm
   rw [←H6.out.eq] at hy
   clear hp1 hK hbr hmk
   go_wp2_with fail
   go_region_held3 (fun w':World=>w'.cell? ⟨H,0,none⟩=some (.int .i64 (k:Int))∧w'.cell? ⟨H,1,none⟩=some (.int .i64 (m:Int))∧w'.cell? ⟨b,0,none⟩=some (.int .i64 x.nd)∧w'.cell? ⟨b,1,none⟩=some (.slice x.A x.n x.c)∧w'.cell? ⟨b,2,none⟩=some (.slice (some ad) x.sn x.sc)∧w'.cell? ⟨b,3,none⟩=some (.slice x.B x.m x.d)∧w'.cell? ⟨b,4,none⟩=some (.slice (some ⟨gb,0,none⟩) x.sn x.sn)∧w'.cell? ⟨b,5,none⟩=some (.map (some mb))∧w'.cell? (ad.add (k * 6))=some (.int .i64 s.day)∧w'.cell? ⟨(ad.add (k * 6)).block,(ad.add (k * 6)).off + 1,none⟩=some (.int .i64 s.depot)∧w'.cell? ⟨(ad.add (k * 6)).block,(ad.add (k * 6)).off + 2,none⟩=some (.int .i64 s.start)∧w'.cell? ⟨(ad.add (k * 6)).block,(ad.add (k * 6)).off + 3,none⟩=some (.int .i64 s.end_)∧w'.cell? ⟨(ad.add (k * 6)).block,(ad.add (k * 6)).off + 4,none⟩=some (.int .i64 s.tare)∧w'.cell? ⟨(ad.add (k * 6)).block,(ad.add (k * 6)).off + 5,none⟩=some (.slice s.A s.n s.c))
    (first | with_reducible exact S0d | with_reducible exact S0 | fail)
    (fail)
   obtain ⟨wd,hwd⟩:∃ wd,wd=wr.drew:=⟨_,rfl⟩
   rw [←hwd] at hy hbd ⊢
   have hp2:=HP.out.below hbd
   have hg2:w.grownBy wd (some mb):=grow_below (grow_below (grow_refl w _) HB.out) hbd
   clear hlook S0 S0d hwd
   cases ok
   ·obtain rfl:=hn rfl
    clear hy hn
    have hK2:KBlk wd H k m:=blk_below hbd HK.out
    have HP2:=Lib.hid hp2
    have HK2:=Lib.hid hK2
    have HG2:=Lib.hid hg2
    have hVd:=hV.below (bel HB.out hbd)
    have hmk:∀ w',Below wd.heap.size wd w'→(fun w':World=>w'.cell? ⟨H,0,none⟩=some (.int .i64 (k:Int))∧w'.cell? ⟨H,1,none⟩=some (.int .i64 (m:Int))∧w'.cell? ⟨b,0,none⟩=some (.int .i64 x.nd)∧w'.cell? ⟨b,1,none⟩=some (.slice x.A x.n x.c)∧w'.cell? ⟨b,2,none⟩=some (.slice (some ad) x.sn x.sc)∧w'.cell? ⟨b,3,none⟩=some (.slice x.B x.m x.d)∧w'.cell? ⟨b,4,none⟩=some (.slice (some ⟨gb,0,none⟩) x.sn x.sn)∧w'.cell? ⟨b,5,none⟩=some (.map (some mb))∧w'.cell? (ad.add (k * 6))=some (.int .i64 s.day)∧w'.cell? ⟨(ad.add (k * 6)).block,(ad.add (k * 6)).off + 1,none⟩=some (.int .i64 s.depot)∧w'.cell? ⟨(ad.add (k * 6)).block,(ad.add (k * 6)).off + 2,none⟩=some (.int .i64 s.start)∧w'.cell? ⟨(ad.add (k * 6)).block,(ad.add (k * 6)).off + 3,none⟩=some (.int .i64 s.end_)∧w'.cell? ⟨(ad.add (k * 6)).block,(ad.add (k * 6)).off + 4,none⟩=some (.int .i64 s.tare)∧w'.cell? ⟨(ad.add (k * 6)).block,(ad.add (k * 6)).off + 5,none⟩=some (.slice s.A s.n s.c)) w':=fun w' h=>BCells.mk' HK2.out HP2.out.blk HA.out HS.out HP2.out.cs (Ext.below h)
    have hbd0:Below wd.heap.size wd wd:=Below.refl _ _
    have S0:=hmk _ hbd0
    obtain ⟨Y,hY⟩:∃ Y,Y=K.bestOut x.nd x.l s x.r v:=⟨_,rfl⟩
    have HY:=Lib.hid hY
    have ba:Below wd.heap.size wd (wd.alloc (.cells #[.int .i64 0,.slice none 0 0,.slice none 0 0,.int .i64 0] 80)):=(Below.refl _ _).alloc (Nat.le_refl _) _
    have S0a:=hmk _ ba
    have S0d:=hmk _ hbd0.drew
    have S0ad:=hmk _ ba.drew
    have hAt:=fun w' (h:Below wd.heap.size wd w')=>(HP2.out.below h).one (List.mem_of_getElem? HS.out)
    have hvn9:vn≤1000000000:=by omega
    have HX9:=Lib.hid (show ∀ g,wd.heap.size≤g→X g→False from fun g h1 h2=>by have:=hX g h2;have:=HB.out.size;have:=hbd.size;omega)
    clear hY hp2 hK2 hg2
    go_wp2_with fail
    go_cut [12,13] from 40 to 59 (fun v12 v13 wc=>∃ g A n c A' n' c',v12=.pointer (some ⟨g,0,none⟩)∧v13=.int .i64 Y.2∧TBlk wc g 0 (.slice A n c) (.slice A' n' c') Y.1.end_∧Ints wc A n Y.1.stops∧Ints wc A' n' Y.1.times∧Below wd.heap.size wd wc∧wd.heap.size≤g∧(0 < n→∀ ad,A=some ad→ad.block ≠ g)∧(0 < n'→∀ ad,A'=some ad→ad.block ≠ g)∧(∀ ad,A=some ad→wd.heap.size≤ad.block)∧(∀ ad,A'=some ad→wd.heap.size≤ad.block)∧n≤c∧n'≤c')
    case first =>
     go_region_held3 (fun w':World=>w'.cell? ⟨H,0,none⟩=some (.int .i64 (k:Int))∧w'.cell? ⟨H,1,none⟩=some (.int .i64 (m:Int))∧w'.cell? ⟨b,0,none⟩=some (.int .i64 x.nd)∧w'.cell? ⟨b,1,none⟩=some (.slice x.A x.n x.c)∧w'.cell? ⟨b,2,none⟩=some (.slice (some ad) x.sn x.sc)∧w'.cell? ⟨b,3,none⟩=some (.slice x.B x.m x.d)∧w'.cell? ⟨b,4,none⟩=some (.slice (some ⟨gb,0,none⟩) x.sn x.sn)∧w'.cell? ⟨b,5,none⟩=some (.map (some mb))∧w'.cell? (ad.add (k * 6))=some (.int .i64 s.day)∧w'.cell? ⟨(ad.add (k * 6)).block,(ad.add (k * 6)).off + 1,none⟩=some (.int .i64 s.depot)∧w'.cell? ⟨(ad.add (k * 6)).block,(ad.add (k * 6)).off + 2,none⟩=some (.int .i64 s.start)∧w'.cell? ⟨(ad.add (k * 6)).block,(ad.add (k * 6)).off + 3,none⟩=some (.int .i64 s.end_)∧w'.cell? ⟨(ad.add (k * 6)).block,(ad.add (k * 6)).off + 4,none⟩=some (.int .i64 s.tare)∧w'.cell? ⟨(ad.add (k * 6)).block,(ad.add (k * 6)).off + 5,none⟩=some (.slice s.A s.n s.c))
      (first | with_reducible exact S1s | with_reducible exact S1b | with_reducible exact S1a | with_reducible exact S1 | with_reducible exact S0ad | with_reducible exact S0a | with_reducible exact S0d | with_reducible exact S0 | fail)
      (first
       | (go_at_call 125;refine (best_any (x.one s) V vn vc v _ (hAt _ ?_) (hVd.below ?_) hvc hvn9).mono ?_;(first | with_reducible exact hbd0 | with_reducible exact ba | with_reducible exact hbd0.drew | with_reducible exact ba.drew);(first | with_reducible exact hbd0 | with_reducible exact ba | with_reducible exact hbd0.drew | with_reducible exact ba.drew);rw [show K.bestOut (x.one s).nd (x.one s).l (x.one s).s (x.one s).r v=Y from HY.out.symm];rintro e w5 ⟨⟨A0,n0,c0,A1,n1,c1,rfl,hI0,hI1,hf0,hf1,hk0,hk1⟩,hbn⟩;(first | (have b5:=bel hbd0.drew hbn;have b5b:=bel b5 ((Below.refl _ _).alloc (Nat.le_refl _) (.cells #[.int .i64 0,.slice A0 n0 c0,.slice A1 n1 c1,.int .i64 Y.1.end_] 80));have S1b:=hmk _ b5b;have S1a:=hmk _ (bel b5 ((Below.refl _ _).alloc (Nat.le_refl _) (.cells #[.int .i64 0,.slice none 0 0,.slice none 0 0,.int .i64 0] 80)))) | (have b5:=bel ba.drew hbn;have hT5:=blk_below hbn (heap_alloc_new wd (.cells #[.int .i64 0,.slice none 0 0,.slice none 0 0,.int .i64 0] 80));have S1s:=hmk _ (below_set4 b5 (Nat.le_refl _) (.int .i64 0) (.slice A0 n0 c0) (.slice A1 n1 c1) (.int .i64 Y.1.end_));obtain ⟨t0,t1,t2,t3⟩:=TBlk.cells (h:=0) hT5;have tf:=blk_free hT5));have S1:=hmk _ b5)
       | fail)
     ·go_wp2_with fail
      go_meet
      case rel=>(go_light;exact ⟨w5.heap.size,A0,n0,c0,A1,n1,c1,rfl,rfl,heap_alloc_new _ _,hI0.below ((Below.refl _ _).alloc (Nat.le_refl _) _),hI1.below ((Below.refl _ _).alloc (Nat.le_refl _) _),b5b,b5.size,fun h0 ad' e h9=>Nat.lt_irrefl _ (h9 ▸ hI0.lt_of h0 e),fun h0 ad' e h9=>Nat.lt_irrefl _ (h9 ▸ hI1.lt_of h0 e),hf0,hf1,hk0,hk1⟩)
     ·have hz9:=World.size_alloc wd (.cells #[.int .i64 0,.slice none 0 0,.slice none 0 0,.int .i64 0] 80)
      have hne0:∀ ad':Addr,A0=some ad'→ad'.block ≠ wd.heap.size:=fun ad' e h9=>by
       have h8:=hf0 ad' e
       rw [h9] at h8
       have h8:(wd.alloc (.cells #[.int .i64 0,.slice none 0 0,.slice none 0 0,.int .i64 0] 80)).heap.size≤wd.heap.size:=h8
       omega
      have hne1:∀ ad':Addr,A1=some ad'→ad'.block ≠ wd.heap.size:=fun ad' e h9=>by
       have h8:=hf1 ad' e
       rw [h9] at h8
       have h8:(wd.alloc (.cells #[.int .i64 0,.slice none 0 0,.slice none 0 0,.int .i64 0] 80)).heap.size≤wd.heap.size:=h8
       omega
      have hT9:TBlk ((((w5.setCell ⟨wd.heap.size,0,none⟩ (.int .i64 0)).setCell ⟨wd.heap.size,1,none⟩ (.slice A0 n0 c0)).setCell ⟨wd.heap.size,2,none⟩ (.slice A1 n1 c1)).setCell ⟨wd.heap.size,3,none⟩ (.int .i64 Y.1.end_)) wd.heap.size 0 (.slice A0 n0 c0) (.slice A1 n1 c1) Y.1.end_:=blk_set (blk_set (blk_set (blk_set hT5 0 _) 1 _) 2 _) 3 _
      have b9:=below_set4 b5 (Nat.le_refl _) (.int .i64 0) (.slice A0 n0 c0) (.slice A1 n1 c1) (.int .i64 Y.1.end_)
      go_wp2_with fail
      go_meet
      case rel=>(go_light;exact ⟨wd.heap.size,A0,n0,c0,A1,n1,c1,rfl,rfl,hT9,(((hI0.set _ hne0).set _ hne0).set _ hne0).set _ hne0,(((hI1.set _ hne1).set _ hne1).set _ hne1).set _ hne1,b9,Nat.le_refl _,fun _=>hne0,fun _=>hne1,fun ad' e=>Nat.le_trans ba.size (hf0 ad' e),fun ad' e=>Nat.le_trans ba.size (hf1 ad' e),hk0,hk1⟩)
    case rest =>
     obtain ⟨g,A0,n0,c0,A1,n1,c1,rfl,rfl,hT,hI0,hI1,hbc,hgd,hn0,hn1,hu0,hu1,hk0,hk1⟩:=hcut
     clear S0 S0a S0d S0ad hmk hAt hVd ba hbd0
     cases hb:K.best x.nd x.l s x.r v with
     | none =>
      have he:Y.2=4:=by rw [HY.out,K.bestOut_none HOK.out hb]
      have hd:(Y.2 == 0)=false:=by rw [he];rfl
      have hd2:decide (Y.2=0)=false:=by rw [he];rfl
      clear he hT hI0 hI1 hn0 hn1 hu0 hu1
      have hv0:TourAt wc X k (none:Option K.Tr) (.pointer none):=rfl
      rw [←hb] at hv0
      have HV0:=Lib.hid hv0
      clear hv0 hb
      go_wp2_with fail
      clear hd hd2
      obtain ⟨wx,hwx⟩:∃ wx,wx=wc:=⟨_,rfl⟩
      rw [←hwx] at HV0 hbc ⊢
      have hbx:=hbc
      clear hwx hbc
      have hpx:=HP2.out.below hbx
      have hKx:KBlk wx H k m:=blk_below hbx HK2.out
      have hgx:=grow_below HG2.out hbx
      have hxd:Below wx.heap.size wx wx.drew:=(Below.refl _ _).drew
      obtain ⟨w6,hupd,hM6,hg6⟩:=(hpx.memo.below hxd).store HS.out hk6 hm (v:=.pointer none) (by rw [←H6.out.eq];exact HV0.out.ext (Ext.below hxd))
      have hx6:=(Ext.below hxd).trans ((hpx.memo.below hxd).ext hg6)
      have S7:(fun w':World=>w'.cell? ⟨H,0,none⟩=some (.int .i64 (k:Int))∧w'.cell? ⟨H,1,none⟩=some (.int .i64 (m:Int))∧w'.cell? ⟨b,0,none⟩=some (.int .i64 x.nd)∧w'.cell? ⟨b,1,none⟩=some (.slice x.A x.n x.c)∧w'.cell? ⟨b,2,none⟩=some (.slice (some ad) x.sn x.sc)∧w'.cell? ⟨b,3,none⟩=some (.slice x.B x.m x.d)∧w'.cell? ⟨b,4,none⟩=some (.slice (some ⟨gb,0,none⟩) x.sn x.sn)∧w'.cell? ⟨b,5,none⟩=some (.map (some mb))∧w'.cell? (ad.add (k * 6))=some (.int .i64 s.day)∧w'.cell? ⟨(ad.add (k * 6)).block,(ad.add (k * 6)).off + 1,none⟩=some (.int .i64 s.depot)∧w'.cell? ⟨(ad.add (k * 6)).block,(ad.add (k * 6)).off + 2,none⟩=some (.int .i64 s.start)∧w'.cell? ⟨(ad.add (k * 6)).block,(ad.add (k * 6)).off + 3,none⟩=some (.int .i64 s.end_)∧w'.cell? ⟨(ad.add (k * 6)).block,(ad.add (k * 6)).off + 4,none⟩=some (.int .i64 s.tare)∧w'.cell? ⟨(ad.add (k * 6)).block,(ad.add (k * 6)).off + 5,none⟩=some (.slice s.A s.n s.c)) wx:=BCells.mk' hKx hpx.blk HA.out HS.out hpx.cs (Ext.refl _)
      have S7d:(fun w':World=>w'.cell? ⟨H,0,none⟩=some (.int .i64 (k:Int))∧w'.cell? ⟨H,1,none⟩=some (.int .i64 (m:Int))∧w'.cell? ⟨b,0,none⟩=some (.int .i64 x.nd)∧w'.cell? ⟨b,1,none⟩=some (.slice x.A x.n x.c)∧w'.cell? ⟨b,2,none⟩=some (.slice (some ad) x.sn x.sc)∧w'.cell? ⟨b,3,none⟩=some (.slice x.B x.m x.d)∧w'.cell? ⟨b,4,none⟩=some (.slice (some ⟨gb,0,none⟩) x.sn x.sn)∧w'.cell? ⟨b,5,none⟩=some (.map (some mb))∧w'.cell? (ad.add (k * 6))=some (.int .i64 s.day)∧w'.cell? ⟨(ad.add (k * 6)).block,(ad.add (k * 6)).off + 1,none⟩=some (.int .i64 s.depot)∧w'.cell? ⟨(ad.add (k * 6)).block,(ad.add (k * 6)).off + 2,none⟩=some (.int .i64 s.start)∧w'.cell? ⟨(ad.add (k * 6)).block,(ad.add (k * 6)).off + 3,none⟩=some (.int .i64 s.end_)∧w'.cell? ⟨(ad.add (k * 6)).block,(ad.add (k * 6)).off + 4,none⟩=some (.int .i64 s.tare)∧w'.cell? ⟨(ad.add (k * 6)).block,(ad.add (k * 6)).off + 5,none⟩=some (.slice s.A s.n s.c)) wx.drew:=BCells.mk' hKx hpx.blk HA.out HS.out hpx.cs (Ext.below hxd)
      have S7u:(fun w':World=>w'.cell? ⟨H,0,none⟩=some (.int .i64 (k:Int))∧w'.cell? ⟨H,1,none⟩=some (.int .i64 (m:Int))∧w'.cell? ⟨b,0,none⟩=some (.int .i64 x.nd)∧w'.cell? ⟨b,1,none⟩=some (.slice x.A x.n x.c)∧w'.cell? ⟨b,2,none⟩=some (.slice (some ad) x.sn x.sc)∧w'.cell? ⟨b,3,none⟩=some (.slice x.B x.m x.d)∧w'.cell? ⟨b,4,none⟩=some (.slice (some ⟨gb,0,none⟩) x.sn x.sn)∧w'.cell? ⟨b,5,none⟩=some (.map (some mb))∧w'.cell? (ad.add (k * 6))=some (.int .i64 s.day)∧w'.cell? ⟨(ad.add (k * 6)).block,(ad.add (k * 6)).off + 1,none⟩=some (.int .i64 s.depot)∧w'.cell? ⟨(ad.add (k * 6)).block,(ad.add (k * 6)).off + 2,none⟩=some (.int .i64 s.start)∧w'.cell? ⟨(ad.add (k * 6)).block,(ad.add (k * 6)).off + 3,none⟩=some (.int .i64 s.end_)∧w'.cell? ⟨(ad.add (k * 6)).block,(ad.add (k * 6)).off + 4,none⟩=some (.int .i64 s.tare)∧w'.cell? ⟨(ad.add (k * 6)).block,(ad.add (k * 6)).off + 5,none⟩=some (.slice s.A s.n s.c)) w6:=BCells.mk' hKx hpx.blk HA.out HS.out hpx.cs hx6
      have HPX:=Lib.hid hpx
      have HGX:=Lib.hid hgx
      clear hKx hpx hgx
      go_wp2_with fail
      go_region_held3 (fun w':World=>w'.cell? ⟨H,0,none⟩=some (.int .i64 (k:Int))∧w'.cell? ⟨H,1,none⟩=some (.int .i64 (m:Int))∧w'.cell? ⟨b,0,none⟩=some (.int .i64 x.nd)∧w'.cell? ⟨b,1,none⟩=some (.slice x.A x.n x.c)∧w'.cell? ⟨b,2,none⟩=some (.slice (some ad) x.sn x.sc)∧w'.cell? ⟨b,3,none⟩=some (.slice x.B x.m x.d)∧w'.cell? ⟨b,4,none⟩=some (.slice (some ⟨gb,0,none⟩) x.sn x.sn)∧w'.cell? ⟨b,5,none⟩=some (.map (some mb))∧w'.cell? (ad.add (k * 6))=some (.int .i64 s.day)∧w'.cell? ⟨(ad.add (k * 6)).block,(ad.add (k * 6)).off + 1,none⟩=some (.int .i64 s.depot)∧w'.cell? ⟨(ad.add (k * 6)).block,(ad.add (k * 6)).off + 2,none⟩=some (.int .i64 s.start)∧w'.cell? ⟨(ad.add (k * 6)).block,(ad.add (k * 6)).off + 3,none⟩=some (.int .i64 s.end_)∧w'.cell? ⟨(ad.add (k * 6)).block,(ad.add (k * 6)).off + 4,none⟩=some (.int .i64 s.tare)∧w'.cell? ⟨(ad.add (k * 6)).block,(ad.add (k * 6)).off + 5,none⟩=some (.slice s.A s.n s.c))
       (first | with_reducible exact S7u | with_reducible exact S7d | with_reducible exact S7 | fail)
       (fail)
      clear S7 S7d S7u hupd
      go_wp2_with fail
      go_ret
      exact ⟨⟨_,rfl,HV0.out.ext hx6⟩,grow_step (grow_below HGX.out hxd) hg6 (.inl rfl),(HPX.out.below hxd).grown hg6 hM6⟩
     | some bt =>
      have he:Y=(bt,0):=by rw [HY.out,K.bestOut_some HOK.out hb]
      clear HY
      subst he
      obtain ⟨wx,hwx⟩:∃ wx:World,wx=wc.setCell ⟨g,0,none⟩ (.int .i64 k):=⟨_,rfl⟩
      have hbx:Below wd.heap.size wd wx:=by rw [hwx];exact hbc.setCell hgd _
      have hv0:TourAt wx X k (some bt) (.pointer (some ⟨g,0,none⟩)):=by
       rw [hwx]
       exact ⟨g,A0,n0,c0,A1,n1,c1,rfl,blk_set hT 0 _,hI0.set1 _ hn0,hI1.set1 _ hn1,fun hg=>HX9.out g hgd hg,fun _ ad e hg=>HX9.out _ (hu0 ad e) hg,fun _ ad e hg=>HX9.out _ (hu1 ad e) hg,hk0,hk1⟩
      have t0:=blk_cell hT 0 _ rfl
      have tf:=blk_free hT
      rw [←hb] at hv0
      have HV0:=Lib.hid hv0
      clear hv0 hb hT hI0 hI1 hn0 hn1 hu0 hu1
      go_upto_region 12 with fail
      rw [←hwx]
      clear hwx t0 tf hbc
      have hpx:=HP2.out.below hbx
      have hKx:KBlk wx H k m:=blk_below hbx HK2.out
      have hgx:=grow_below HG2.out hbx
      have hxd:Below wx.heap.size wx wx.drew:=(Below.refl _ _).drew
      obtain ⟨w6,hupd,hM6,hg6⟩:=(hpx.memo.below hxd).store HS.out hk6 hm (v:=.pointer (some ⟨g,0,none⟩)) (by rw [←H6.out.eq];exact HV0.out.ext (Ext.below hxd))
      have hx6:=(Ext.below hxd).trans ((hpx.memo.below hxd).ext hg6)
      have S7:(fun w':World=>w'.cell? ⟨H,0,none⟩=some (.int .i64 (k:Int))∧w'.cell? ⟨H,1,none⟩=some (.int .i64 (m:Int))∧w'.cell? ⟨b,0,none⟩=some (.int .i64 x.nd)∧w'.cell? ⟨b,1,none⟩=some (.slice x.A x.n x.c)∧w'.cell? ⟨b,2,none⟩=some (.slice (some ad) x.sn x.sc)∧w'.cell? ⟨b,3,none⟩=some (.slice x.B x.m x.d)∧w'.cell? ⟨b,4,none⟩=some (.slice (some ⟨gb,0,none⟩) x.sn x.sn)∧w'.cell? ⟨b,5,none⟩=some (.map (some mb))∧w'.cell? (ad.add (k * 6))=some (.int .i64 s.day)∧w'.cell? ⟨(ad.add (k * 6)).block,(ad.add (k * 6)).off + 1,none⟩=some (.int .i64 s.depot)∧w'.cell? ⟨(ad.add (k * 6)).block,(ad.add (k * 6)).off + 2,none⟩=some (.int .i64 s.start)∧w'.cell? ⟨(ad.add (k * 6)).block,(ad.add (k * 6)).off + 3,none⟩=some (.int .i64 s.end_)∧w'.cell? ⟨(ad.add (k * 6)).block,(ad.add (k * 6)).off + 4,none⟩=some (.int .i64 s.tare)∧w'.cell? ⟨(ad.add (k * 6)).block,(ad.add (k * 6)).off + 5,none⟩=some (.slice s.A s.n s.c)) wx:=BCells.mk' hKx hpx.blk HA.out HS.out hpx.cs (Ext.refl _)
      have S7d:(fun w':World=>w'.cell? ⟨H,0,none⟩=some (.int .i64 (k:Int))∧w'.cell? ⟨H,1,none⟩=some (.int .i64 (m:Int))∧w'.cell? ⟨b,0,none⟩=some (.int .i64 x.nd)∧w'.cell? ⟨b,1,none⟩=some (.slice x.A x.n x.c)∧w'.cell? ⟨b,2,none⟩=some (.slice (some ad) x.sn x.sc)∧w'.cell? ⟨b,3,none⟩=some (.slice x.B x.m x.d)∧w'.cell? ⟨b,4,none⟩=some (.slice (some ⟨gb,0,none⟩) x.sn x.sn)∧w'.cell? ⟨b,5,none⟩=some (.map (some mb))∧w'.cell? (ad.add (k * 6))=some (.int .i64 s.day)∧w'.cell? ⟨(ad.add (k * 6)).block,(ad.add (k * 6)).off + 1,none⟩=some (.int .i64 s.depot)∧w'.cell? ⟨(ad.add (k * 6)).block,(ad.add (k * 6)).off + 2,none⟩=some (.int .i64 s.start)∧w'.cell? ⟨(ad.add (k * 6)).block,(ad.add (k * 6)).off + 3,none⟩=some (.int .i64 s.end_)∧w'.cell? ⟨(ad.add (k * 6)).block,(ad.add (k * 6)).off + 4,none⟩=some (.int .i64 s.tare)∧w'.cell? ⟨(ad.add (k * 6)).block,(ad.add (k * 6)).off + 5,none⟩=some (.slice s.A s.n s.c)) wx.drew:=BCells.mk' hKx hpx.blk HA.out HS.out hpx.cs (Ext.below hxd)
      have S7u:(fun w':World=>w'.cell? ⟨H,0,none⟩=some (.int .i64 (k:Int))∧w'.cell? ⟨H,1,none⟩=some (.int .i64 (m:Int))∧w'.cell? ⟨b,0,none⟩=some (.int .i64 x.nd)∧w'.cell? ⟨b,1,none⟩=some (.slice x.A x.n x.c)∧w'.cell? ⟨b,2,none⟩=some (.slice (some ad) x.sn x.sc)∧w'.cell? ⟨b,3,none⟩=some (.slice x.B x.m x.d)∧w'.cell? ⟨b,4,none⟩=some (.slice (some ⟨gb,0,none⟩) x.sn x.sn)∧w'.cell? ⟨b,5,none⟩=some (.map (some mb))∧w'.cell? (ad.add (k * 6))=some (.int .i64 s.day)∧w'.cell? ⟨(ad.add (k * 6)).block,(ad.add (k * 6)).off + 1,none⟩=some (.int .i64 s.depot)∧w'.cell? ⟨(ad.add (k * 6)).block,(ad.add (k * 6)).off + 2,none⟩=some (.int .i64 s.start)∧w'.cell? ⟨(ad.add (k * 6)).block,(ad.add (k * 6)).off + 3,none⟩=some (.int .i64 s.end_)∧w'.cell? ⟨(ad.add (k * 6)).block,(ad.add (k * 6)).off + 4,none⟩=some (.int .i64 s.tare)∧w'.cell? ⟨(ad.add (k * 6)).block,(ad.add (k * 6)).off + 5,none⟩=some (.slice s.A s.n s.c)) w6:=BCells.mk' hKx hpx.blk HA.out HS.out hpx.cs hx6
      have HPX:=Lib.hid hpx
      have HGX:=Lib.hid hgx
      clear hKx hpx hgx
      go_wp2_with fail
      go_region_held3 (fun w':World=>w'.cell? ⟨H,0,none⟩=some (.int .i64 (k:Int))∧w'.cell? ⟨H,1,none⟩=some (.int .i64 (m:Int))∧w'.cell? ⟨b,0,none⟩=some (.int .i64 x.nd)∧w'.cell? ⟨b,1,none⟩=some (.slice x.A x.n x.c)∧w'.cell? ⟨b,2,none⟩=some (.slice (some ad) x.sn x.sc)∧w'.cell? ⟨b,3,none⟩=some (.slice x.B x.m x.d)∧w'.cell? ⟨b,4,none⟩=some (.slice (some ⟨gb,0,none⟩) x.sn x.sn)∧w'.cell? ⟨b,5,none⟩=some (.map (some mb))∧w'.cell? (ad.add (k * 6))=some (.int .i64 s.day)∧w'.cell? ⟨(ad.add (k * 6)).block,(ad.add (k * 6)).off + 1,none⟩=some (.int .i64 s.depot)∧w'.cell? ⟨(ad.add (k * 6)).block,(ad.add (k * 6)).off + 2,none⟩=some (.int .i64 s.start)∧w'.cell? ⟨(ad.add (k * 6)).block,(ad.add (k * 6)).off + 3,none⟩=some (.int .i64 s.end_)∧w'.cell? ⟨(ad.add (k * 6)).block,(ad.add (k * 6)).off + 4,none⟩=some (.int .i64 s.tare)∧w'.cell? ⟨(ad.add (k * 6)).block,(ad.add (k * 6)).off + 5,none⟩=some (.slice s.A s.n s.c))
       (first | with_reducible exact S7u | with_reducible exact S7d | with_reducible exact S7 | fail)
       (fail)
      clear S7 S7d S7u hupd
      go_wp2_with fail
      go_ret
      exact ⟨⟨_,rfl,HV0.out.ext hx6⟩,grow_step (grow_below HGX.out hxd) hg6 (.inl rfl),(HPX.out.below hxd).grown hg6 hM6⟩
   ·have hy2:=hy rfl
    clear hy hn
    go_wp2_with fail
    go_ret
    exact ⟨⟨_,rfl,hy2⟩,hg2,hp2⟩
theorem best32_any (w0:World) (b mb gb:Nat) (x:Cs) {X:Nat→Prop} (shs:List Sh) (k:Nat) (s:S) (V:Option Addr) (vn vc:Nat) (v:List Int) (w:World) (hp:PlAt w0 w b mb gb x X shs) (hX:∀ g,X g→g < w.heap.size) (hs:x.ss[k]? = some s) (hV:Ints w V vn v) (hvc:vn≤vc) (hvs:v.Pairwise (· < ·)) (hvb:∀ i ∈ v,0≤i∧i < (x.r.length:Int)) :
  Calls Tryz.prog 68 #[.pointer (some ⟨b,0,none⟩),.int .i64 k,.slice V vn vc] w fun e w'=>RetTB w0 w w' b mb gb x X shs k (K.best x.nd x.l s x.r v) e :=
 (best32z w0 b mb gb x shs k s V vn vc v w ⟨hp.case,hp.bw,hp.hb,hp.hm,hp.hg,hp.blk,hp.sh,hp.len,hp.ints,hp.memo,hp.ok,fun g h=>⟨Nat.zero_le _,(hp.away g h).2⟩⟩ hX hs hV hvc hvs hvb).mono fun _ _ h=>⟨h.1,h.2.1,⟨h.2.2.case,h.2.2.bw,h.2.2.hb,h.2.2.hm,h.2.2.hg,h.2.2.blk,h.2.2.sh,h.2.2.len,h.2.2.ints,h.2.2.memo,h.2.2.ok,fun g e=>⟨(hp.away g e).1,(h.2.2.away g e).2⟩⟩⟩
set_option maxHeartbeats 1000000 in
theorem clip_any (A:Option Addr) (n c:Nat) (w:World) (hnc:n≤c) (hA:A=none→n=0∧c=0):Calls Tryz.prog 124 #[.slice A n c] w fun e w'=>e=.returned (.slice A n n)∧w=w':=by
 have k0:(0:Int)≤(n:Int):=by omega
 have k1:(n:Int)≤(c:Int):=by omega
 cases A with
 | none =>
  obtain ⟨rfl,rfl⟩:=hA rfl
  go_enter Tryz.func124,Tryz.ntmps124
  go_wp2_with fail
  go_ret
  exact ⟨rfl,rfl⟩
 | some ad =>
  go_enter Tryz.func124,Tryz.ntmps124
  go_wp2_with fail
  go_ret
  exact ⟨by simp,rfl⟩
set_option maxRecDepth 100000 in
theorem step_app_full {ops:Array Oper} {o:Oper} {a:Act} {w w2:World} {K:Act→World→Prop} {Q:Exit→Act→World→Prop} {E:Prop} (hgd:o.guard=none) (s x:Operand)
  (ho:o.op=.call { callee:=.builtin .append,args:=#[s,x],argTypes:=#[48,48] })
  {A:Option Addr} {n:Nat} {l:List Int} (hI:Ints w2 A n l) (hA:A=none→n=0) (hs:a.eval s=.slice A n n) (g:Nat) (p:Int) (hx:a.eval x=.slice (some ⟨g,0,none⟩) 1 1)
  (hw:Below w2.heap.size w2 w) (hg:w.heap[g]? = some (.cells #[.int .i64 p] 3 (0,0))) (hn:n≤1000000)
  (h:∀ B c w',Ints w' (some B) (n + 1) (l ++ [p])→n + 1≤c→Below w.heap.size w w'→w.heap.size≤B.block→K (a.put o.dst (.slice (some B) (n + 1) c)) w') :
  if Region.wanted o (yielded ops a.tmps)=true then Oper.wp Tryz.prog o a w K Q else E:=by
 obtain ⟨i0,hi,hz0,hz1,hz2⟩:=info_parts Tryz.info3
 have hIw:=hI.below hw
 refine step_append_grows hgd s x 48 ho 3 i0 (.int .i64 0) 1 8 Tryz.underlying48 hi hz0 hz1 hz2 rfl (by decide) A n n (intCells l) hs (fun e=>⟨hA e,hA e⟩) (by rw [hI.1];simp [intCells]) ?_ ⟨g,0,none⟩ 1 1 [.int .i64 p] hx rfl ?_ (fun u hu=>by simp at hu;subst hu;rfl) (by omega) (by simp only [maxLen];omega) (by omega) ?_
 ·intro b e j u hu
  have hj:j < n:=by rw [hI.1];have:=(List.getElem?_eq_some_iff.1 hu).1;simpa [intCells] using this
  obtain ⟨ad,y,e',hy,cy⟩:=hIw.at_ hj
  rw [e] at e'
  injection e' with e'
  subst e'
  rw [intCells,List.getElem?_map,hy] at hu
  injection hu with hu
  rw [←hu]
  exact cy
 ·intro j u hu
  rw [add_zero_block]
  exact blk_cell hg j u (by simpa using hu)
 ·intro v' w' hown hgrow
  have hown2:w'.ownsRow w.heap.size 3 1 v' (n + 1) (intCells (l ++ [p])):=by
   rw [intCells_app]
   exact hown
  have hl:n + 1=(l ++ [p]).length:=by rw [List.length_append,hI.1];rfl
  have hb:Below w.heap.size w w':=⟨hgrow.os,hgrow.tape,hgrow.output,hgrow.size,fun k hk=>hgrow.block k hk (fun e=>by cases e)⟩
  obtain ⟨A',c',e',hI'⟩:=own_ints hown2 hl
  obtain ⟨-,⟨e,e0⟩ | ⟨g',cap,cur,e,hb',hh,hnc,-⟩⟩:=hown2
  ·omega
  ·rw [e] at e'
   injection e' with e1 e2 e3
   subst e1 e3
   rw [e]
   exact h _ _ w' hI' hnc hb hb'
theorem ShBlk.ints_ne {w:World} {gb:Nat} {shs:List Sh} (h:ShBlk w gb shs) {A:Option Addr} {n:Nat} {l:List Int} (hI:Ints w A n l):0 < n→∀ ad,A=some ad→ad.block ≠ gb:=by
 intro h0 ad e hb
 obtain ⟨ad',y,e',-,hc⟩:=hI.at_ h0
 rw [e] at e'
 injection e' with e'
 subst e'
 unfold World.cell? at hc
 have hb2:(ad.add 0).block=gb:=hb
 rw [hb2,h] at hc
 by_cases hsp:(ad.add 0).spot.isSome=true
 ·simp [hsp] at hc
 ·simp only [hsp,List.getElem?_toArray,List.getElem?_map] at hc
  cases hs:shs[(ad.add 0).off]? with
  | none=>simp [hs] at hc
  | some s=>simp [hs,Sh.val] at hc
theorem TourAt.setgb {w:World} {gb:Nat} {shs:List Sh} (h:ShBlk w gb shs) {X:Nat→Prop} {k:Int} {t:Option K.Tr} {v:Value} (ht:TourAt w X k t v) (i:Nat) (u:Value):TourAt (w.setCell ⟨gb,i,none⟩ u) X k t v:=by
 cases t with
 | none=>exact ht
 | some t =>
  obtain ⟨g,A,n,c,A',n',c',h1,h2,h3,h4,h5⟩:=ht
  have hne:g ≠ gb:=fun e=>by
   subst e
   unfold ShBlk at h
   unfold TBlk at h2
   rw [h2] at h
   injection h with h
   injection h with h5 h6
   cases h6
  exact ⟨g,A,n,c,A',n',c',h1,(Below.heap_setCell w _ _ g (fun e=>hne e)).trans h2,h3.set1 _ (h.ints_ne h3),h4.set1 _ (h.ints_ne h4),h5⟩
theorem PlAt.store {w0 w:World} {b mb gb:Nat} {x:Cs} {shs:List Sh} (h:PlAt w0 w b mb gb x NoX shs) (s:Nat) (u:Sh) (hu:Ints w u.A u.n u.l∧u.n≤u.c):PlAt w0 (w.setCell ⟨gb,s,none⟩ u.val) b mb gb x NoX (shs.set s u):=by
 have hbne:b ≠ gb:=fun e=>by
  have h1:=h.blk
  have h2:=h.sh
  subst e
  unfold PlBlk at h1
  unfold ShBlk at h2
  rw [h1] at h2
  injection h2 with h2
  injection h2 with h3 h4
  cases h4
 obtain ⟨es,clock,hm,hes⟩:=h.memo
 have hmne:mb ≠ gb:=fun e=>by
  have h2:=h.sh
  subst e
  unfold ShBlk at h2
  rw [hm] at h2
  injection h2 with h2
  cases h2
 refine ⟨h.case,h.bw.setCell h.hg _,h.hb,h.hm,h.hg,(Below.heap_setCell w _ _ b (fun e=>hbne e)).trans h.blk,?_,by rw [List.length_set];exact h.len,fun t ht=>?_,⟨es,clock,(Below.heap_setCell w _ _ mb (fun e=>hmne e)).trans hm,fun e he=>?_⟩,h.ok,fun g hg=>hg.elim⟩
 ·have:=blk_set h.sh s u.val
  unfold ShBlk
  rw [this]
  simp [List.map_set]
 ·rcases List.mem_or_eq_of_mem_set ht with ht | rfl
  ·exact ⟨(h.ints t ht).1.set1 _ (h.sh.ints_ne (h.ints t ht).1),(h.ints t ht).2⟩
  ·exact ⟨hu.1.set1 _ (h.sh.ints_ne hu.1),hu.2⟩
 ·obtain ⟨k,s',m,g1,g2,g3,g4,g5⟩:=hes e he
  exact ⟨k,s',m,g1,g2,g3,g4,g5.setgb h.sh _ _⟩
theorem But2.trans {w w1 w2:World} {mb g:Nat} (h:But2 w w1 mb g) (h2:But2 w1 w2 mb g):But2 w w2 mb g :=
 ⟨h2.os.trans h.os,h2.tape.trans h.tape,h2.output.trans h.output,Nat.le_trans h.size h2.size,fun k hk a c=>(h2.block k (Nat.lt_of_lt_of_le hk h.size) a c).trans (h.block k hk a c)⟩
theorem But2.refl (w:World) (mb g:Nat):But2 w w mb g:=⟨rfl,rfl,rfl,Nat.le_refl _,fun _ _ _ _=>rfl⟩
theorem But2.below {w w1 w2:World} {mb g:Nat} (h:But2 w w1 mb g) (h2:Below w1.heap.size w1 w2):But2 w w2 mb g :=
 h.trans ⟨h2.os,h2.tape,h2.output,h2.size,fun k hk _ _=>h2.block k hk⟩
theorem Ints.but2 {w w':World} {A:Option Addr} {n mb gb:Nat} {l:List Int} (h:Ints w A n l) (hb:But2 w w' mb gb) (hg:0 < n→∀ ad,A=some ad→ad.block ≠ gb) {es:Array MapEntry} {clock:Nat} (hm:w.heap[mb]? = some (.map es clock)):Ints w' A n l:=by
 refine ⟨h.1,h.2.1,fun h0=>?_⟩
 obtain ⟨ad,e,hc⟩:=h.2.2 h0
 refine ⟨ad,e,fun j u hu=>?_⟩
 have c:=hc j u hu
 have hlt:=cell_lt c
 refine (World.cell?_of_block (hb.block _ hlt (fun e2=>?_) (by rw [add_block];exact hg h0 ad e))).trans c
 unfold World.cell? at c
 rw [e2,hm] at c
 simp at c
def Grown (shs:List Sh) (i:Nat):Prop:=∀ s ∈ shs,s.l.Pairwise (· < ·)∧(∀ y ∈ s.l,0≤y∧y < (i:Int))∧(s.A=none→s.n=0∧s.c=0)
theorem Grown.give {shs:List Sh} {i:Nat} (h:Grown shs i) {k:Nat} {s:Sh} (hs:shs[k]? = some s) (B:Addr) (n c:Nat):Grown (shs.set k ⟨some B,n,c,s.l ++ [(i:Int)]⟩) (i + 1):=by
 intro t ht
 rcases List.mem_or_eq_of_mem_set ht with ht | rfl
 ·exact ⟨(h t ht).1,fun y hy=>by have:=(h t ht).2.1 y hy;omega,(h t ht).2.2⟩
 ·obtain ⟨h1,h2,-⟩:=h s (List.mem_of_getElem? hs)
  refine ⟨List.pairwise_append.2 ⟨h1,List.pairwise_singleton _ _,fun a ha b hb=>?_⟩,fun y hy=>?_,fun e=>(nomatch e)⟩
  ·rw [List.mem_singleton] at hb
   have:=h2 a ha
   omega
  ·rcases List.mem_append.1 hy with hy | hy
   ·have:=h2 y hy;omega
   ·rw [List.mem_singleton] at hy;omega
def RetAs (w0 w w':World) (b mb gb:Nat) (x:Cs) (shs:List Sh) (o:Option (List (List Int))) (e:Ending):Prop :=
 (∃ shs',PlAt w0 w' b mb gb x NoX shs'∧((o=none∧e=.returned (.bool false)∧shs'=shs)∨∃ fin,o=some fin∧e=.returned (.bool true)∧shs'.map Sh.l=fin))∧But2 w w' mb gb
theorem set_same {α:Type} {l:List α} {k:Nat} {a:α} (h:l[k]? = some a):l.set k a=l:=by
 apply List.ext_getElem?
 intro j
 rw [List.getElem?_set]
 by_cases e:k=j
 ·subst e
  rw [if_pos rfl,h,if_pos (List.getElem?_eq_some_iff.1 h).1]
 ·rw [if_neg e]
namespace A
theorem range_drop {m s:Nat} (h:s < m):(List.range m).drop s=s :: (List.range m).drop (s + 1):=by
 rw [List.drop_eq_getElem_cons (by rw [List.length_range];exact h),List.getElem_range]
theorem go_no {B:Nat→List Int→Bool} {rec:List (List Int)→Option (List (List Int))} {i:Int} {sh:List (List Int)} {m s:Nat} (hs:s < m) (h:B s ((sh[s]?).getD [] ++ [i])=false∨rec (give sh s i)=none) :
  assign.go B rec i sh ((List.range m).drop s)=assign.go B rec i sh ((List.range m).drop (s + 1)):=by
 rw [range_drop hs,assign.go]
 rcases h with h | h
 ·rw [h];rfl
 ·rw [h];split <;> rfl
theorem go_yes {B:Nat→List Int→Bool} {rec:List (List Int)→Option (List (List Int))} {i:Int} {sh fin:List (List Int)} {m s:Nat} (hs:s < m) (h:B s ((sh[s]?).getD [] ++ [i])=true) (h2:rec (give sh s i)=some fin) :
  assign.go B rec i sh ((List.range m).drop s)=some fin:=by
 rw [range_drop hs,assign.go,if_pos h,h2]
end A
def TV.cells (y:TV):List Value:=[.int .i64 y.sh,.slice y.A y.n y.c,.slice y.A' y.n' y.c',.int .i64 y.t.end_]
def Tours (w:World) (A:Option Addr) (n:Nat) (l:List TV):Prop:=Lst TV.cells 4 w A n l∧∀ y ∈ l,Ints w y.A y.n y.t.stops∧Ints w y.A' y.n' y.t.times
theorem Tours.below {w w':World} {A:Option Addr} {n:Nat} {l:List TV} (h:Tours w A n l) (hb:Below w.heap.size w w'):Tours w' A n l:=⟨Lst.below h.1 hb,fun s hs=>⟨(h.2 s hs).1.below hb,(h.2 s hs).2.below hb⟩⟩
theorem Tours.at_ {w:World} {A:Option Addr} {n k:Nat} {l:List TV} (h:Tours w A n l) (hk:k < n) :
  ∃ ad y,A=some ad∧l[k]? = some y∧(Ints w y.A y.n y.t.stops∧Ints w y.A' y.n' y.t.times)∧w.cell? (ad.add (k * 4))=some (.int .i64 y.sh)∧w.cell? ⟨(ad.add (k * 4)).block,(ad.add (k * 4)).off + 1,none⟩=some (.slice y.A y.n y.c) ∧
   w.cell? ⟨(ad.add (k * 4)).block,(ad.add (k * 4)).off + 2,none⟩=some (.slice y.A' y.n' y.c')∧w.cell? ⟨(ad.add (k * 4)).block,(ad.add (k * 4)).off + 3,none⟩=some (.int .i64 y.t.end_):=by
 obtain ⟨ad,s,hA,hl,hc⟩:=Lst.get (f:=TV.cells) (s:=4) (fun _=>rfl) h.1 hk
 refine ⟨ad,s,hA,hl,h.2 s (List.mem_of_getElem? hl),hc 0 _ (by omega) rfl,?_,?_,?_⟩ <;> rw [←add_next _ _ _ (by omega)]
 ·exact hc 1 _ (by omega) rfl
 ·exact hc 2 _ (by omega) rfl
 ·exact hc 3 _ (by omega) rfl
theorem Tryz.info80:(Tryz.prog.info? 80).map (fun i=>(i.zero,i.size,i.bytes))=some (some (.agg #[.int .i64 0,.slice none 0 0,.slice none 0 0,.int .i64 0]),4,64):=by kernel_rfl
theorem app_tour {ops:Array Oper} {rest:List Oper} {o:Oper} {a:Act} {Q:Exit→Act→World→Prop} {w:World} (hgd:o.guard=none) (s x:Operand)
  (ho:o.op=.call { callee:=.builtin .append,args:=#[s,x],argTypes:=#[27,27] })
  (base:Nat) (v:Value) (n:Nat) (l:List TV) (hs:a.eval s=v) (hown:w.ownsRow base 80 4 v n (l.flatMap TV.cells)) (g:Nat) (y:TV) (hx:a.eval x=.slice (some ⟨g,0,none⟩) 1 1)
  (hg:w.heap[g]? = some (.cells #[.int .i64 y.sh,.slice y.A y.n y.c,.slice y.A' y.n' y.c',.int .i64 y.t.end_] 80 (0,0))) (hn:n≤1000000) (hbase:base≤w.heap.size)
  (h:∀ v' w',w'.ownsRow base 80 4 v' (n + 1) ((l ++ [y]).flatMap TV.cells)→w.grownBy w' v.ownBlock→(v'.ownBlock=v.ownBlock∨v'.ownBlock=some w.heap.size)→wpList Tryz.prog ops Q rest (a.put o.dst v') w') :
  wpList Tryz.prog ops Q (o :: rest) a w:=by
 obtain ⟨i0,hi,hz0,hz1,hz2⟩:=info_parts Tryz.info80
 refine wpList_append_own_at w hgd s x 27 ho base 80 i0 (.agg #[.int .i64 0,.slice none 0 0,.slice none 0 0,.int .i64 0]) 4 64 Tryz.underlying27 hi hz0 hz1 hz2 rfl (by decide) v n (l.flatMap TV.cells) hs hown ⟨g,0,none⟩ 1 1 y.cells hx rfl ?_ ?_ ?_ ?_ hbase ?_
 ·intro j u hu
  rw [add_zero_block]
  exact blk_cell hg j u (by simpa [TV.cells] using hu)
 ·intro u hu
  simp [TV.cells] at hu
  rcases hu with rfl | rfl | rfl | rfl <;> rfl
 ·simp only [maxLen];omega
 ·omega
 ·intro v' w' h2 h3 _ h5
  exact h v' w' (by rw [List.flatMap_append];simpa using h2) h3 h5
theorem Ints.grow {w w':World} {A:Option Addr} {n:Nat} {l:List Int} {r:Option Nat} (h:Ints w A n l) (hg:w.grownBy w' r) (hne:0 < n→∀ ad,A=some ad→some ad.block ≠ r):Ints w' A n l:=by
 refine ⟨h.1,h.2.1,fun h0=>?_⟩
 obtain ⟨ad,e,hc⟩:=h.2.2 h0
 refine ⟨ad,e,fun j u hu=>?_⟩
 have c:=hc j u hu
 exact (World.cell?_of_block (hg.block _ (cell_lt c) (by rw [add_block];exact hne h0 ad e))).trans c
theorem PlAt.turn {w0 w:World} {b mb gb:Nat} {x:Cs} {X Y:Nat→Prop} {shs:List Sh} (h:PlAt w0 w b mb gb x X shs) (hY:∀ g,Y g→X g∨w.heap.size≤g):PlAt w0 w b mb gb x Y shs:=by
 refine ⟨h.case,h.bw,h.hb,h.hm,h.hg,h.blk,h.sh,h.len,h.ints,h.memo.more fun g hg hy=>(hY g hy).resolve_right (by omega),h.ok,fun g hy=>?_⟩
 rcases hY g hy with hx | hs
 ·exact h.away g hx
 ·have h1:=lt_of_block h.blk
  have h2:=lt_of_block h.sh
  obtain ⟨es,clock,hm,-⟩:=h.memo
  have h3:=(Array.getElem?_eq_some_iff.1 hm).1
  have h4:=h.bw.size
  refine ⟨by omega,by omega,by omega,by omega,fun s hs' h0 ad e=>?_⟩
  have:=(h.ints s hs').1.lt_of h0 e
  omega
theorem PlAt.own {w0 w w':World} {b mb gb:Nat} {x:Cs} {X:Nat→Prop} {shs:List Sh} {r:Option Nat} (h:PlAt w0 w b mb gb x X shs) (hg:w.grownBy w' r) (hr:∀ g,r=some g→X g):PlAt w0 w' b mb gb x X shs:=by
 have hb:∀ g,g < w.heap.size→(∀ k,r=some k→g ≠ k)→w'.heap[g]? = w.heap[g]?:=fun g hl hne=>hg.block g hl (fun e=>hne g e.symm rfl)
 obtain ⟨es,clock,hm,hes⟩:=h.memo
 refine ⟨h.case,below_own2 h.bw hg (fun g e=>(h.away g (hr g e)).1),h.hb,h.hm,h.hg,(hb b (lt_of_block h.blk) fun k e=>((h.away k (hr k e)).2.1).symm).trans h.blk,(hb gb (lt_of_block h.sh) fun k e=>((h.away k (hr k e)).2.2.2.1).symm).trans h.sh,h.len,fun s hs=>⟨(h.ints s hs).1.grow hg fun h0 ad e e2=>(h.away _ (hr _ e2.symm)).2.2.2.2 s hs h0 ad e rfl,(h.ints s hs).2⟩,
  ⟨es,clock,(hb mb (Array.getElem?_eq_some_iff.1 hm).1 fun k e=>((h.away k (hr k e)).2.2.1).symm).trans hm,fun e he=>?_⟩,h.ok,h.away⟩
 obtain ⟨k,s,m,h1,h2,h3,h4,h5⟩:=hes e he
 refine ⟨k,s,m,h1,h2,h3,h4,?_⟩
 cases hbt:K.best x.nd x.l s x.r (K.part (K.iota 6) m) with
 | none=>rw [hbt] at h5;exact h5
 | some t =>
  rw [hbt] at h5
  obtain ⟨g,A,n,c,A',n',c',g1,g2,g3,g4,g5,g6,g7⟩:=h5
  exact ⟨g,A,n,c,A',n',c',g1,grow_blk hg g2 (fun e=>g5 (hr g e.symm)),g3.grow hg (fun h0 ad e e2=>g6 h0 ad e (hr _ e2.symm)),g4.grow hg (fun h0 ad e e2=>g7.1 h0 ad e (hr _ e2.symm)),g5,g6,g7⟩
namespace K
def tourAt (nd:Int) (l:List Ro) (ss:List S) (r:List Q) (d:List Nat) (s:Nat):Option (Nat × Tr):=if (A.share d s 0).isEmpty then none else match ss[s]? with
  | none=>none
  | some x=>(best nd l x r (A.share d s 0)).map fun t=>(s,t)
theorem toursOf_eq (nd:Int) (l:List Ro) (ss:List S) (r:List Q) (d:List Nat):toursOf nd l ss r d=(List.range ss.length).filterMap (tourAt nd l ss r d):=rfl
theorem upto_none {α:Type} {f:Nat→Option α} {s:Nat} (h:f s=none):(List.range (s + 1)).filterMap f=(List.range s).filterMap f:=by
 rw [List.range_succ,List.filterMap_append,List.filterMap_cons,h];simp
theorem upto_some {α:Type} {f:Nat→Option α} {s:Nat} {a:α} (h:f s=some a):(List.range (s + 1)).filterMap f=(List.range s).filterMap f ++ [a]:=by
 rw [List.range_succ,List.filterMap_append,List.filterMap_cons,h];simp
end K
def TV.pr (y:TV):Int × K.Tr:=(y.sh,y.t)
def RetPlan32 (w w':World) (p:List (Nat × K.Tr) × Int) (e:Ending):Prop :=
 (∃ A n c l,e=.returned (.tuple #[.slice A n c,.int .i64 p.2])∧Tours w' A n l∧n≤c∧l.map TV.pr=p.1.map (fun t=>((t.1:Int),t.2)))∧Below w.heap.size w w'
theorem retPlan_nil {w w':World} {p:List (Nat × K.Tr) × Int} {er:Int} (h:p=([],er)) (hb:Below w.heap.size w w'):RetPlan32 w w' p (.returned (.tuple #[.slice none 0 0,.int .i64 er])):=by
 subst h
 exact ⟨⟨none,0,0,[],rfl,⟨⟨rfl,rfl,fun h=>absurd h (by omega)⟩,fun y h=>by cases h⟩,Nat.le_refl _,rfl⟩,hb⟩
theorem PlAz.store {w0 w:World} {b mb gb:Nat} {x:Cs} {X:Nat→Prop} {shs:List Sh} (h:PlAz w0 w b mb gb x X shs) (s:Nat) (u:Sh) (hu:Ints w u.A u.n u.l∧u.n≤u.c) (hu2:∀ g,X g→0 < u.n→∀ ad,u.A=some ad→ad.block ≠ g):PlAz w0 (w.setCell ⟨gb,s,none⟩ u.val) b mb gb x X (shs.set s u):=by
 have hbne:b ≠ gb:=fun e=>by
  have h1:=h.blk
  have h2:=h.sh
  subst e
  unfold PlBlk at h1
  unfold ShBlk at h2
  rw [h1] at h2
  injection h2 with h2
  injection h2 with h3 h4
  cases h4
 obtain ⟨es,clock,hm,hes⟩:=h.memo
 have hmne:mb ≠ gb:=fun e=>by
  have h2:=h.sh
  subst e
  unfold ShBlk at h2
  rw [hm] at h2
  injection h2 with h2
  cases h2
 refine ⟨h.case,h.bw.setCell h.hg _,h.hb,h.hm,h.hg,(Below.heap_setCell w _ _ b (fun e=>hbne e)).trans h.blk,?_,by rw [List.length_set];exact h.len,fun t ht=>?_,⟨es,clock,(Below.heap_setCell w _ _ mb (fun e=>hmne e)).trans hm,fun e he=>?_⟩,h.ok,fun g hg=>?_⟩
 ·have:=blk_set h.sh s u.val
  unfold ShBlk
  rw [this]
  simp [List.map_set]
 ·rcases List.mem_or_eq_of_mem_set ht with ht | rfl
  ·exact ⟨(h.ints t ht).1.set1 _ (h.sh.ints_ne (h.ints t ht).1),(h.ints t ht).2⟩
  ·exact ⟨hu.1.set1 _ (h.sh.ints_ne hu.1),hu.2⟩
 ·obtain ⟨k,s',m,g1,g2,g3,g4,g5⟩:=hes e he
  exact ⟨k,s',m,g1,g2,g3,g4,g5.setgb h.sh _ _⟩
 ·obtain ⟨a1,a2,a3,a4,a5⟩:=h.away g hg
  refine ⟨a1,a2,a3,a4,fun t ht=>?_⟩
  rcases List.mem_or_eq_of_mem_set ht with ht | rfl
  ·exact a5 t ht
  ·exact hu2 g hg
def RetAsX (w0 w w':World) (b mb gb:Nat) (x:Cs) (X:Nat→Prop) (shs:List Sh) (o:Option (List (List Int))) (e:Ending):Prop :=
 (∃ shs',PlAz w0 w' b mb gb x X shs'∧((o=none∧e=.returned (.bool false)∧shs'=shs)∨∃ fin,o=some fin∧e=.returned (.bool true)∧shs'.map Sh.l=fin))∧But2 w w' mb gb
set_option maxRecDepth 100000 in
set_option maxHeartbeats 16000000 in
theorem assign32X (w0:World) (b mb gb:Nat) (x:Cs) {X:Nat→Prop} (wX:Nat) (hX:∀ g,X g→g < wX):∀ (k i:Nat) (shs:List Sh) (w:World),i + k=x.m→wX≤w.heap.size→PlAz w0 w b mb gb x X shs→Grown shs i →
  Calls Tryz.prog 67 #[.pointer (some ⟨b,0,none⟩),.int .i64 i] w fun e w'=>RetAsX w0 w w' b mb gb x X shs (A.assign (K.feas x.nd x.l x.ss x.r) x.sn k i (shs.map Sh.l)) e:=by
 intro k
 induction k with
 | zero =>
  intro i shs w hi hwX hp hgr
  have c0:=blk_cell hp.blk 0 _ rfl
  have c2:=blk_cell hp.blk 2 _ rfl
  have c3:=blk_cell hp.blk 3 _ rfl
  have hd:decide ((i:Int)=(x.m:Int))=true:=by simp;omega
  have hd2:((i:Int) == (x.m:Int))=true:=by simp;omega
  have hd3:decide (i=x.m)=true:=by simp;omega
  have hd4:(i == x.m)=true:=by simp;omega
  have hdi:i=x.m:=by omega
  go_enter Tryz.func67,Tryz.ntmps67
  go_wp2_with fail
  go_ret
  exact ⟨⟨shs,hp,.inr ⟨_,rfl,rfl,rfl⟩⟩,But2.refl _ _ _⟩
 | succ k ih =>
  intro i shs w hi hwX hp hgr
  have HP:=Lib.hid hp
  have HGR:=Lib.hid hgr
  have c0:=blk_cell hp.blk 0 _ rfl
  have c2:=blk_cell hp.blk 2 _ rfl
  have c3:=blk_cell hp.blk 3 _ rfl
  have hd:decide ((i:Int)=(x.m:Int))=false:=by simp;omega
  have hd2:((i:Int) == (x.m:Int))=false:=by simp;omega
  have hd3:decide (i=x.m)=false:=by simp;omega
  have hd4:(i == x.m)=false:=by simp;omega
  obtain ⟨h1,h2,h3,h4,h5⟩:=K.pcheck_ok hp.ok
  have hm6:x.m≤6:=by rw [hp.case.reqs.1];exact h5
  have hsn4:x.sn≤4:=by rw [hp.case.shifts.1.1];exact h2
  have HSN:=Lib.hid hp.case.shifts.1.1
  have HRN:=Lib.hid hp.case.reqs.1
  have HLEN:=Lib.hid hp.len
  clear h1 h2 h3 h4 h5 hp hgr
  go_enter Tryz.func67,Tryz.ntmps67
  go_wp2_with fail
  clear c0 c2 c3 hd hd2 hd3 hd4
  obtain ⟨o,ho⟩:∃ o,o=A.assign (K.feas x.nd x.l x.ss x.r) x.sn (k + 1) i (shs.map Sh.l):=⟨_,rfl⟩
  have HO:=Lib.hid ho
  clear ho
  go_loopw [19] (fun v19 wr=>∃ s:Nat,v19=.int .i64 s∧s≤x.sn∧PlAz w0 wr b mb gb x X shs∧But2 w wr mb gb∧Hid (o=A.assign.go (K.feas x.nd x.l x.ss x.r) (A.assign (K.feas x.nd x.l x.ss x.r) x.sn k (i + 1)) i (shs.map Sh.l) ((List.range x.sn).drop s))) (fun v19 _=>x.sn - (intOf v19).toNat)
  case atStart=>exact ⟨0,rfl,Nat.zero_le _,HP.out,But2.refl _ _ _,HO.out⟩
  case round =>
   obtain ⟨s,rfl,hs,hpr,hbr,hor⟩:=hrel
   by_cases hlt:s < x.sn
   ·obtain ⟨sh,hsh⟩:∃ sh,shs[s]? = some sh:=⟨_,List.getElem?_eq_getElem (by rw [HLEN.out];exact hlt)⟩
    have hget:((shs.map Sh.l)[s]?).getD [] = sh.l:=by rw [List.getElem?_map,hsh];rfl
    obtain ⟨hI,hnc⟩:=hpr.ints sh (List.mem_of_getElem? hsh)
    obtain ⟨hso,hbd,hAn⟩:=HGR.out sh (List.mem_of_getElem? hsh)
    have hn6:sh.n≤6:=by
     obtain ⟨m6,h6⟩:=K.set6 hso fun y hy=>by have:=hbd y hy;omega
     rw [hI.1];exact h6.len
    have HNC:=Lib.hid hnc
    have c4:=blk_cell hpr.blk 4 _ rfl
    have c5:wr.cell? ⟨gb,s,none⟩=some (.slice sh.A sh.n sh.c):=blk_cell hpr.sh s _ (by simp [hsh,Sh.val])
    have HSH:=Lib.hid hsh
    have HSO:=Lib.hid hso
    have HBD:=Lib.hid hbd
    have HGET:=Lib.hid hget
    have HPR:=Lib.hid hpr
    have HBR:=Lib.hid hbr
    have HXW:=Lib.hid (show ∀ g,X g→g < wr.heap.size from fun g hg=>Nat.lt_of_lt_of_le (hX g hg) (Nat.le_trans hwX hbr.size))
    have k0:(0:Int)≤(s:Int):=by omega
    have k1:(s:Int) < (x.sn:Int):=by omega
    clear hpr hbr hso hbd hget hsh
    go_upto_region 7 with fail
    have HI:=Lib.hid hI
    have hA0:sh.A=none→sh.n=0:=fun e=>(hAn e).1
    have hbla:Below wr.heap.size wr (wr.alloc (.cells #[.int .i64 (i:Int)] 3)).drew:=((Below.refl _ _).alloc (Nat.le_refl _) _).drew
    have hbdr:Below wr.heap.size wr wr.drew:=(Below.refl _ _).drew
    have S0:(fun w':World=>w'.cell? ⟨b,4,none⟩=some (.slice (some ⟨gb,0,none⟩) x.sn x.sn)) wr:=c4
    have S0d:(fun w':World=>w'.cell? ⟨b,4,none⟩=some (.slice (some ⟨gb,0,none⟩) x.sn x.sn)) wr.drew:=blk_cell (HPR.out.below hbdr).blk 4 _ rfl
    have S0l:(fun w':World=>w'.cell? ⟨b,4,none⟩=some (.slice (some ⟨gb,0,none⟩) x.sn x.sn)) (wr.alloc (.cells #[.int .i64 (i:Int)] 3)).drew:=blk_cell (HPR.out.below hbla).blk 4 _ rfl
    have hn9:sh.n≤1000000:=by omega
    have hkc:=HNC.out
    clear hI hnc c4 c5
    go_cut [38] from 29 to 39 (fun v38 wa=>∃ B c9,v38=.slice (some B) (sh.n + 1) c9∧sh.n + 1≤c9∧PlAz w0 wa b mb gb x X (shs.set s ⟨some B,sh.n + 1,c9,sh.l ++ [(i:Int)]⟩)∧Ints wa (some B) (sh.n + 1) (sh.l ++ [(i:Int)])∧Ints wa sh.A sh.n sh.l∧But2 w wa mb gb)
    case first =>
     go_region_held3 (fun w':World=>w'.cell? ⟨b,4,none⟩=some (.slice (some ⟨gb,0,none⟩) x.sn x.sn))
      (first | with_reducible exact S10 | with_reducible exact S9 | with_reducible exact S0l | with_reducible exact S0d | with_reducible exact S0 | fail)
      (first
       | (go_at_call 124;refine (clip_any sh.A sh.n sh.c _ hkc hAn).mono ?_;rintro e w9 ⟨rfl,rfl⟩)
       | (refine step_app_full rfl (.tmp 35) (.tmp 37) rfl HI.out hA0 rfl wr.heap.size (i:Int) rfl hbla (heap_alloc_new wr _) hn9 ?_;intro B c9 w9 hI9 hc9 hb9 hB9;have hp9:=HPR.out.below (bel hbla hb9);have S9:w9.cell? ⟨b,4,none⟩=some (.slice (some ⟨gb,0,none⟩) x.sn x.sn):=blk_cell hp9.blk 4 _ rfl;have c59:w9.cell? ⟨gb,s,none⟩=some (.slice sh.A sh.n sh.c):=blk_cell hp9.sh s _ (by simp [HSH.out,Sh.val]);have f59:=blk_free hp9.sh;have hp10:=hp9.store s ⟨some B,sh.n + 1,c9,sh.l ++ [(i:Int)]⟩ ⟨hI9,hc9⟩ (fun g hg _ ad e e2=>by have h1:=HXW.out g hg;have h2:=hbla.size;(injection e with e);rw [e] at hB9;omega);have S10:(w9.setCell ⟨gb,s,none⟩ (.slice (some B) (sh.n + 1) c9)).cell? ⟨b,4,none⟩=some (.slice (some ⟨gb,0,none⟩) x.sn x.sn):=blk_cell hp10.blk 4 _ rfl)
       | fail)
     all_goals
      have hr1:=hI9.set1 (i:=s) (.slice (some B) (sh.n + 1) c9) (hp9.sh.ints_ne hI9)
      have hr2:=(HI.out.below (bel hbla hb9)).set1 (i:=s) (.slice (some B) (sh.n + 1) c9) (hp9.sh.ints_ne (HI.out.below (bel hbla hb9)))
      have hr3:=(HBR.out.below (bel hbla hb9)).set s (.slice (some B) (sh.n + 1) c9)
      go_wp2_with fail
      go_meet
      exact ⟨B,c9,rfl,hc9,hp10,hr1,hr2,hr3⟩
    case rest =>
     obtain ⟨B,c9,rfl,hc9,hpa,hIa,hIo,hba⟩:=hcut
     obtain ⟨u,hu⟩:∃ u:Sh,u=⟨some B,sh.n + 1,c9,sh.l ++ [(i:Int)]⟩:=⟨_,rfl⟩
     rw [←hu] at hpa
     obtain ⟨wa,hwa⟩:∃ wa,wa=wc:=⟨_,rfl⟩
     rw [←hwa] at hpa hIa hIo hba
     have hsl:s < shs.length:=by rw [HLEN.out];exact hlt
     have HSL:=Lib.hid (show (shs.set s u)[s]? = some ⟨some B,sh.n + 1,c9,sh.l ++ [(i:Int)]⟩ by rw [List.getElem?_set,if_pos rfl,if_pos hsl,hu])
     have hgu:Grown (shs.set s u) (i + 1):=by rw [hu];exact HGR.out.give HSH.out B _ _
     obtain ⟨gso,gbd,-⟩:=hgu _ (List.mem_of_getElem? HSL.out)
     obtain ⟨sS,hsS⟩:∃ sS,x.ss[s]? = some sS:=⟨_,List.getElem?_eq_getElem (by rw [←HSN.out];exact hlt)⟩
     have HGB:=Lib.hid (show ∀ y ∈ sh.l ++ [(i:Int)],0≤y∧y < (x.r.length:Int) from fun y hy=>by have:=gbd y hy;have:=HRN.out;omega)
     have HGS:=Lib.hid (show (sh.l ++ [(i:Int)]).Pairwise (· < ·) from gso)
     have CB:=best32z w0 b mb gb x (shs.set s u) s sS (some B) (sh.n + 1) c9 (sh.l ++ [(i:Int)]) wa hpa (fun g hg=>Nat.lt_of_lt_of_le (hX g hg) (Nat.le_trans hwX hba.size)) hsS hIa hc9 gso HGB.out
     have hfe:K.feas x.nd x.l x.ss x.r s (((shs.map Sh.l)[s]?).getD [] ++ [(i:Int)])=(K.best x.nd x.l sS x.r (sh.l ++ [(i:Int)])).isSome:=by
      rw [HGET.out,Bool.eq_iff_iff,K.feas_iff hpa.ok gso HGB.out,Option.isSome_iff_exists]
      exact ⟨fun ⟨s2,t,e1,e2⟩=>by rw [hsS] at e1;injection e1 with e1;subst e1;exact ⟨t,e2⟩,fun ⟨t,e2⟩=>⟨sS,t,hsS,e2⟩⟩
     have hgv:(shs.set s u).map Sh.l=A.give (shs.map Sh.l) s i:=by
      unfold A.give
      rw [HGET.out,List.map_set,hu]
     obtain ⟨T,hT⟩:∃ T,T=K.best x.nd x.l sS x.r (sh.l ++ [(i:Int)]):=⟨_,rfl⟩
     rw [←hT] at CB hfe
     have HFE:=Lib.hid hfe
     have HGV:=Lib.hid hgv
     have HGU:=Lib.hid hgu
     have c4a:=blk_cell hpa.blk 4 _ rfl
     have c5a:wa.cell? ⟨gb,s,none⟩=some (.slice (some B) (sh.n + 1) c9):=blk_cell hpa.sh s _ (by rw [List.getElem?_toArray,List.getElem?_map,HSL.out];rfl)
     have HOR:=Lib.hid hor.out
     rw [←hwa]
     clear hgu gso gbd hfe hgv hT hsS hwa S0 S0d S0l hbla hbdr hu hor hA0 hkc hAn
     go_wp2_with fail
     refine CB.mono ?_
     rintro e wb ⟨⟨u',rfl,hTA⟩,hgb,hpb⟩
     have hIb:=hIo.ext (hpa.memo.ext hgb)
     have hbb:=hba.trans (But2.of hgb)
     clear CB c4a c5a hpa hIa hba hIo
     cases T with
     | none =>
      obtain rfl:u'=.pointer none:=hTA
      have HNX:=Lib.hid (show o=A.assign.go (K.feas x.nd x.l x.ss x.r) (A.assign (K.feas x.nd x.l x.ss x.r) x.sn k (i + 1)) i (shs.map Sh.l) ((List.range x.sn).drop (s + 1)) from HOR.out.trans (A.go_no hlt (.inl HFE.out)))
      have c4c:=blk_cell hpb.blk 4 _ rfl
      have c5c:wb.cell? ⟨gb,s,none⟩=some (.slice (some B) (sh.n + 1) c9):=blk_cell hpb.sh s _ (by rw [List.getElem?_toArray,List.getElem?_map,HSL.out];rfl)
      have f5c:=blk_free hpb.sh
      have hpd:=hpb.store s sh ⟨hIb,HNC.out⟩ (fun g hg h0 ad e=>(HPR.out.away g hg).2.2.2.2 sh (List.mem_of_getElem? HSH.out) h0 ad e)
      rw [List.set_set,set_same HSH.out] at hpd
      have hbd:=hbb.set s sh.val
      go_wp2_with fail
      go_roundw
      case rel=>(go_light;exact ⟨s + 1,by go_num,hlt,hpd,hbd,HNX.out⟩)
      case measure=>(go_light;simp [intOf];omega)
     | some bt =>
      obtain ⟨g,A8,n8,c8,A7,n7,c7,rfl,-⟩:=hTA
      obtain ⟨ii,hii⟩:∃ ii,ii=i + 1:=⟨_,rfl⟩
      have kw:IntKind.i64.wrap ((i:Int) + 1)=(ii:Int):=by rw [IntWalk.i64_in _ (by omega)];omega
      have CI:=ih ii (shs.set s u) wb (by omega) (Nat.le_trans hwX hbb.size) hpb (by rw [hii];exact HGU.out)
      rw [HGV.out] at CI
      obtain ⟨O,hO⟩:∃ O,O=A.assign (K.feas x.nd x.l x.ss x.r) x.sn k ii (A.give (shs.map Sh.l) s i):=⟨_,rfl⟩
      rw [←hO] at CI
      have HO2:=Lib.hid (show A.assign (K.feas x.nd x.l x.ss x.r) x.sn k (i + 1) (A.give (shs.map Sh.l) s i)=O by rw [hO,hii];simp)
      obtain ⟨es,clock,hmw,-⟩:=hpb.memo
      have hgn:=hpb.sh.ints_ne hIb
      clear hO hii
      go_wp2_with fail
      refine CI.mono ?_
      rintro e wc ⟨⟨shs',hpc,hres⟩,hbc⟩
      have hIc:=hIb.but2 hbc hgn hmw
      have hbw:=hbb.trans hbc
      clear CI hmw hgn hpb hIb hbb hbc kw
      rcases hres with ⟨h1,rfl,rfl⟩ | ⟨fin,h1,rfl,h2⟩
      ·have HNX:=Lib.hid (show o=A.assign.go (K.feas x.nd x.l x.ss x.r) (A.assign (K.feas x.nd x.l x.ss x.r) x.sn k (i + 1)) i (shs.map Sh.l) ((List.range x.sn).drop (s + 1)) from HOR.out.trans (A.go_no hlt (.inr (HO2.out.trans h1))))
       clear h1
       have c4c:=blk_cell hpc.blk 4 _ rfl
       have c5c:wc.cell? ⟨gb,s,none⟩=some (.slice (some B) (sh.n + 1) c9):=blk_cell hpc.sh s _ (by rw [List.getElem?_toArray,List.getElem?_map,HSL.out];rfl)
       have f5c:=blk_free hpc.sh
       have hpd:=hpc.store s sh ⟨hIc,HNC.out⟩ (fun g hg h0 ad e=>(HPR.out.away g hg).2.2.2.2 sh (List.mem_of_getElem? HSH.out) h0 ad e)
       rw [List.set_set,set_same HSH.out] at hpd
       have hbd:=hbw.set s sh.val
       go_wp2_with fail
       go_roundw
       case rel=>(go_light;exact ⟨s + 1,by go_num,hlt,hpd,hbd,HNX.out⟩)
       case measure=>(go_light;simp [intOf];omega)
      ·have HFN:=Lib.hid (show o=some fin from HOR.out.trans (A.go_yes hlt HFE.out (HO2.out.trans h1)))
       clear h1
       go_wp2_with fail
       go_ret
       exact ⟨⟨shs',hpc,.inr ⟨fin,HO.out ▸ HFN.out,rfl,h2⟩⟩,hbw⟩
   ·have HFN:=Lib.hid (show o=none by rw [hor.out,List.drop_eq_nil_of_le (by rw [List.length_range];omega)];rfl)
    clear hor
    go_wp2_with fail
    go_ret
    exact ⟨⟨shs,hpr,.inl ⟨HO.out ▸ HFN.out,rfl,rfl⟩⟩,hbr⟩
theorem PlAz.turn {w0 w:World} {b mb gb:Nat} {x:Cs} {X Y:Nat→Prop} {shs:List Sh} (h:PlAz w0 w b mb gb x X shs) (hY:∀ g,Y g→X g∨w.heap.size≤g):PlAz w0 w b mb gb x Y shs:=by
 refine ⟨h.case,h.bw,h.hb,h.hm,h.hg,h.blk,h.sh,h.len,h.ints,h.memo.more fun g hg hy=>(hY g hy).resolve_right (by omega),h.ok,fun g hy=>?_⟩
 rcases hY g hy with hx | hs
 ·exact h.away g hx
 ·have h1:=lt_of_block h.blk
  have h2:=lt_of_block h.sh
  obtain ⟨es,clock,hm,-⟩:=h.memo
  have h3:=(Array.getElem?_eq_some_iff.1 hm).1
  have h4:=h.bw.size
  refine ⟨by omega,by omega,by omega,by omega,fun s hs' h0 ad e=>?_⟩
  have:=(h.ints s hs').1.lt_of h0 e
  omega
theorem PlAz.own {w0 w w':World} {b mb gb:Nat} {x:Cs} {X:Nat→Prop} {shs:List Sh} {r:Option Nat} (h:PlAz w0 w b mb gb x X shs) (hg:w.grownBy w' r) (hr:∀ g,r=some g→X g) (hr2:∀ g,r=some g→w0.heap.size≤g):PlAz w0 w' b mb gb x X shs:=by
 have hb:∀ g,g < w.heap.size→(∀ k,r=some k→g ≠ k)→w'.heap[g]? = w.heap[g]?:=fun g hl hne=>hg.block g hl (fun e=>hne g e.symm rfl)
 obtain ⟨es,clock,hm,hes⟩:=h.memo
 refine ⟨h.case,below_own2 h.bw hg hr2,h.hb,h.hm,h.hg,(hb b (lt_of_block h.blk) fun k e=>((h.away k (hr k e)).2.1).symm).trans h.blk,(hb gb (lt_of_block h.sh) fun k e=>((h.away k (hr k e)).2.2.2.1).symm).trans h.sh,h.len,fun s hs=>⟨(h.ints s hs).1.grow hg fun h0 ad e e2=>(h.away _ (hr _ e2.symm)).2.2.2.2 s hs h0 ad e rfl,(h.ints s hs).2⟩,
  ⟨es,clock,(hb mb (Array.getElem?_eq_some_iff.1 hm).1 fun k e=>((h.away k (hr k e)).2.2.1).symm).trans hm,fun e he=>?_⟩,h.ok,h.away⟩
 obtain ⟨k,s,m,h1,h2,h3,h4,h5⟩:=hes e he
 refine ⟨k,s,m,h1,h2,h3,h4,?_⟩
 cases hbt:K.best x.nd x.l s x.r (K.part (K.iota 6) m) with
 | none=>rw [hbt] at h5;exact h5
 | some t =>
  rw [hbt] at h5
  obtain ⟨g,A,n,c,A',n',c',g1,g2,g3,g4,g5,g6,g7⟩:=h5
  exact ⟨g,A,n,c,A',n',c',g1,grow_blk hg g2 (fun e=>g5 (hr g e.symm)),g3.grow hg (fun h0 ad e e2=>g6 h0 ad e (hr _ e2.symm)),g4.grow hg (fun h0 ad e e2=>g7.1 h0 ad e (hr _ e2.symm)),g5,g6,g7⟩
def RetPlanX (w w':World) (p:List (Nat × K.Tr) × Int) (e:Ending):Prop :=
 (∃ A n c l,e=.returned (.tuple #[.slice A n c,.int .i64 p.2])∧Tours w' A n l∧n≤c∧l.map TV.pr=p.1.map (fun t=>((t.1:Int),t.2))∧(∀ ad,A=some ad→w.heap.size≤ad.block)∧NT w l)∧Below w.heap.size w w'
theorem retPlanX_nil {w w':World} {p:List (Nat × K.Tr) × Int} {er:Int} (h:p=([],er)) (hb:Below w.heap.size w w'):RetPlanX w w' p (.returned (.tuple #[.slice none 0 0,.int .i64 er])):=by
 subst h
 exact ⟨⟨none,0,0,[],rfl,⟨⟨rfl,rfl,fun h=>absurd h (by omega)⟩,fun y h=>by cases h⟩,Nat.le_refl _,rfl,(fun ad e=>(by cases e)),(fun y h=>(by cases h))⟩,hb⟩
set_option maxRecDepth 100000 in
set_option maxHeartbeats 16000000 in
theorem plan32X (x:Cs) (w:World) (hx:CsAt w x) :
  Calls Tryz.prog 20 #[.agg #[.int .i64 x.nd,.slice x.A x.n x.c],.slice x.SA x.sn x.sc,.slice x.B x.m x.d] w fun e w'=>RetPlanX w w' (K.plan x.nd x.l x.ss x.r) e:=by
 have hN:=Net.new w x.nd x.A x.n x.c
 have p0:=hN.c0
 have p1:=hN.c1
 have b0:Below w.heap.size w (w.alloc (.cells #[.int .i64 x.nd,.slice x.A x.n x.c] 24)):=(Below.refl _ _).alloc (Nat.le_refl _) _
 go_enter Tryz.func20,Tryz.ntmps20
 go_wp2_with fail
 refine (check32_any x _ (hx.below b0)).mono ?_
 obtain ⟨ce,hce⟩:∃ ce,ce=K.pcheck x.nd x.l x.ss x.r:=⟨_,rfl⟩
 rw [←hce]
 rintro e w1 ⟨rfl,b1⟩
 have hN1:=hN.below b1
 have hb1:=bel b0 b1
 clear p0 p1 b0 b1 hN
 by_cases hz:ce=0
 rotate_left
 ·have HX:=Lib.hid (show K.plan x.nd x.l x.ss x.r=([],ce) by rw [hce] at hz ⊢;exact K.plan_err hz)
  have hd:(ce != 0)=true:=by simp [bne,hz]
  clear hce
  go_wp2_with fail
  go_ret2
  exact retPlanX_nil HX.out hb1
 subst hz
 have HOK:=Lib.hid hce.symm
 clear hce
 have p0:=hN1.c0
 have p1:=hN1.c1
 go_wp2_with fail
 refine (start32X x _ (hx.below hb1) HOK.out).mono ?_
 rintro e w2 ⟨b,mb,gb,rfl,hp0⟩
 have hww1:=hb1.size
 have hp2:=hp0 (Old w) (fun g hg=>Nat.lt_of_lt_of_le hg hww1)
 have hw12:=hp2.bw.size
 have hmb1:=hp2.hm
 clear hp0
 have hm6:x.m≤6:=by rw [hx.reqs.1];exact (K.pcheck_ok HOK.out).2.2.2.2
 have hsn4:x.sn≤4:=by rw [hx.shifts.1.1];exact (K.pcheck_ok HOK.out).2.1
 have HSN:=Lib.hid hx.shifts.1.1
 have HRN:=Lib.hid hx.reqs.1
 clear p0 p1 hN1
 go_wp2_with fail
 have CA:=assign32X w1 b mb gb x w.heap.size (fun g (hg:Old w g)=>hg) x.m 0 _ w2 (by omega) (Nat.le_trans hww1 hw12) hp2 (fun s hs=>by rw [List.eq_of_mem_replicate hs];exact ⟨List.Pairwise.nil,fun y hy=>(by cases hy),fun _=>⟨rfl,rfl⟩⟩)
 have hasg:=A.assign_first (B:=K.feas x.nd x.l x.ss x.r) K.feas_mono.mono x.sn x.m
 rw [show (List.replicate x.sn (⟨none,0,0,[]⟩:Sh)).map Sh.l=List.replicate x.sn [] by rw [List.map_replicate],show ((0:Nat):Int)=0 from rfl,hasg] at CA
 refine CA.mono ?_
 rintro e w3 ⟨⟨shs,hp3,hres⟩,-⟩
 clear hasg hp2 CA
 cases hf:A.first (K.feas x.nd x.l x.ss x.r) x.sn x.m with
 | none =>
  rw [hf] at hres
  rcases hres with ⟨-,rfl,-⟩ | ⟨fin,h,-⟩
  rotate_left
  ·cases h
  have HX:=Lib.hid (show K.plan x.nd x.l x.ss x.r=([],4) by unfold K.plan;rw [if_pos HOK.out,←HSN.out,←HRN.out,hf])
  have hb3:=bel hb1 hp3.bw
  clear hf
  go_wp2_with fail
  go_ret2
  exact retPlanX_nil HX.out hb3
 | some d =>
  rw [hf] at hres
  rcases hres with ⟨h,-⟩ | ⟨fin,h,rfl,hfin⟩
  ·cases h
  injection h with h
  have HPL:=Lib.hid (show K.plan x.nd x.l x.ss x.r=(K.toursOf x.nd x.l x.ss x.r d,0) by unfold K.plan;rw [if_pos HOK.out,←HSN.out,←HRN.out,hf])
  have HFS:=Lib.hid (K.first_some hf)
  have HFIN:=Lib.hid (hfin.trans h.symm)
  have c4:w3.cell? ⟨b,4,none⟩=some (.slice (some ⟨gb,0,none⟩) x.sn x.sn):=blk_cell hp3.blk 4 _ rfl
  obtain ⟨hd1,-,hd3⟩:=HFS.out
  have hw1:=hp3.bw.size
  have hwb:=lt_of_block hp3.blk
  obtain ⟨base,hbase⟩:∃ base,base=w3.heap.size:=⟨_,rfl⟩
  have hbw1:w1.heap.size≤base:=by rw [hbase];exact hw1
  have hbse:w.heap.size≤base:=Nat.le_trans hww1 hbw1
  clear hf h hfin HFS
  have HD1:=Lib.hid hd1
  have HD3:=Lib.hid hd3
  clear hd1 hd3
  go_wp2_with fail
  clear c4
  go_loopw [10,32] (fun v10 v32 wr=>∃ (s:Nat) (ts:List TV),v32=.int .i64 s∧s≤x.sn∧ts.length≤s∧wr.ownsRow base 80 4 v10 ts.length (ts.flatMap TV.cells)∧PlAz w1 wr b mb gb x (fun g=>v10.ownBlock=some g∨Old w g) shs∧NT w ts∧base≤wr.heap.size∧(∀ y ∈ ts,(Ints wr y.A y.n y.t.stops∧Ints wr y.A' y.n' y.t.times)∧(0 < y.n→∀ ad,y.A=some ad→v10.ownBlock ≠ some ad.block)∧(0 < y.n'→∀ ad,y.A'=some ad→v10.ownBlock ≠ some ad.block))∧Hid (ts.map TV.pr=((List.range s).filterMap (K.tourAt x.nd x.l x.ss x.r d)).map fun t=>((t.1:Int),t.2))) (fun _ v32 _=>x.sn - (intOf v32).toNat)
  case atStart=>exact ⟨0,[],rfl,Nat.zero_le _,Nat.zero_le _,World.ownsRow_nil _ _ _ _,hp3.turn (fun g h=>h.elim (fun e=>(by cases e)) .inl),fun y hy=>(by cases hy),by rw [hbase];exact Nat.le_refl _,fun y hy=>(by cases hy),rfl⟩
  case round =>
   clear hp3 hwb hw1
   obtain ⟨s,ts,rfl,hs,htl,hown,hpr,hawt,hbs,hts,hpl⟩:=hrel
   by_cases hlt:s < x.sn
   ·obtain ⟨sh,hsh⟩:∃ sh,shs[s]? = some sh:=⟨_,List.getElem?_eq_getElem (by rw [hpr.len];exact hlt)⟩
    have hshl:sh.l=A.share d s 0:=by
     have h9:=congrArg (fun l=>l[s]?) HFIN.out
     simp only [List.getElem?_map,List.getElem?_range hlt,hsh,Option.map_some] at h9
     injection h9
    obtain ⟨hI,hnc⟩:=hpr.ints sh (List.mem_of_getElem? hsh)
    have c5:wr.cell? ⟨gb,s,none⟩=some (.slice sh.A sh.n sh.c):=blk_cell hpr.sh s _ (by rw [List.getElem?_toArray,List.getElem?_map,hsh];rfl)
    have k0:(0:Int)≤(s:Int):=by omega
    have k1:(s:Int) < (x.sn:Int):=by omega
    have HPR:=Lib.hid hpr
    have HI:=Lib.hid hI
    have HSHL:=Lib.hid hshl
    have HSH:=Lib.hid hsh
    have HTS:=Lib.hid hts
    clear hpr hI hsh hts
    by_cases hn0:sh.n=0
    ·have hd1:decide ((0:Int) < (sh.n:Int))=false:=by rw [hn0];rfl
     have hd2:decide (0 < sh.n)=false:=by rw [hn0];rfl
     have HE:=Lib.hid (show K.tourAt x.nd x.l x.ss x.r d s=none by
      unfold K.tourAt
      have:A.share d s 0=[]:=by rw [←HSHL.out];exact List.length_eq_zero_iff.1 (by rw [←HI.out.1];exact hn0)
      rw [this];rfl)
     have HNX:=Lib.hid (hpl.out.trans (congrArg _ (K.upto_none HE.out).symm))
     clear hshl hpl
     go_wp2_with fail
     go_roundw
     case rel=>(go_light;exact ⟨s + 1,ts,by go_num,hlt,by omega,hown,HPR.out,hawt,hbs,HTS.out,HNX.out⟩)
     case measure=>(go_light;simp [intOf];omega)
    ·have hn1:0 < sh.n:=by omega
     have hd1:decide ((0:Int) < (sh.n:Int))=true:=by simp;omega
     have hd2:decide (0 < sh.n)=true:=by simp;omega
     have hne:A.share d s 0 ≠ []:=fun e=>by
      rw [←HSHL.out] at e
      have:=HI.out.1
      rw [e] at this
      exact hn0 this
     obtain ⟨sS,hsS⟩:∃ sS,x.ss[s]? = some sS:=⟨_,List.getElem?_eq_getElem (by rw [←HSN.out];exact hlt)⟩
     have hsorted:sh.l.Pairwise (· < ·):=by rw [HSHL.out];exact A.share_sorted _ _ _
     have hbound:∀ i ∈ sh.l,0≤i∧i < (x.r.length:Int):=fun i hi=>by
      rw [HSHL.out] at hi
      have:=A.share_mem hi
      rw [HD1.out] at this
      have:=HRN.out
      omega
     have hfe:=(HD3.out s hlt).resolve_left hne
     rw [←HSHL.out] at hfe
     obtain ⟨s2,t,hs2,hbt⟩:=(K.feas_iff HOK.out hsorted hbound).1 hfe
     rw [hsS] at hs2
     injection hs2 with hs2
     subst hs2
     have CB:=best32z w1 b mb gb x shs s sS sh.A sh.n sh.c sh.l wr HPR.out (fun g hg=>hg.elim (fun hg=>(hown.lt g hg).2) (fun hg=>Nat.lt_of_lt_of_le hg (Nat.le_trans hbse hbs))) hsS HI.out hnc hsorted hbound
     rw [hbt] at CB
     have HE:=Lib.hid (show K.tourAt x.nd x.l x.ss x.r d s=some (s,t) by
      unfold K.tourAt
      rw [List.isEmpty_eq_false_iff.2 hne,hsS]
      rw [HSHL.out] at hbt
      show (K.best x.nd x.l sS x.r (A.share d s 0)).map _=_
      rw [hbt]
      rfl)
     have HNX:=Lib.hid (show (ts.map TV.pr) ++ [((s:Int),t)] = ((List.range (s + 1)).filterMap (K.tourAt x.nd x.l x.ss x.r d)).map fun t=>((t.1:Int),t.2) by rw [K.upto_some HE.out,List.map_append,←hpl.out];rfl)
     clear hne hsorted hbound hfe hbt hpl hsS hshl
     go_wp2_with fail
     refine CB.mono ?_
     rintro e wb ⟨⟨u,rfl,g,A,n,c,A',n',c',rfl,hT,hI1,hI2,hx1,hx2,hx3,hk0,hk1⟩,hgb,hpb⟩
     have hownb:=hown.kept hgb (.inr fun e=>(hpb.away mb (.inl e)).2.2.1 rfl)
     have hx2a:0 < n→∀ ad,A=some ad→u10.ownBlock ≠ some ad.block:=fun h0 ad e e2=>hx2 h0 ad e (.inl e2)
     have hx3a:0 < n'→∀ ad,A'=some ad→u10.ownBlock ≠ some ad.block:=fun h0 ad e e2=>hx3 h0 ad e (.inl e2)
     have hawt2:NT w (ts ++ [(⟨s,A,n,c,A',n',c',t⟩:TV)]):=hawt.snoc (fun h0 ad e=>Nat.le_of_not_lt fun e2=>hx2 h0 ad e (.inr e2)) (fun h0 ad e=>Nat.le_of_not_lt fun e2=>hx3 h0 ad e (.inr e2)) ⟨hk0,hk1⟩
     have hxb:=HPR.out.memo.ext hgb
     obtain ⟨t0,t1,t2,t3⟩:=hT.cells
     obtain ⟨wl,hwl⟩:∃ wl:World,wl=wb.alloc (.cells #[.int .i64 s,.slice A n c,.slice A' n' c',.int .i64 t.end_] 80):=⟨_,rfl⟩
     have bl:Below wb.heap.size wb wl:=by rw [hwl];exact (Below.refl _ _).alloc (Nat.le_refl _) _
     have hLT:wl.heap[wb.heap.size]? = some (.cells #[.int .i64 s,.slice A n c,.slice A' n' c',.int .i64 t.end_] 80 (0,0)):=by rw [hwl];exact heap_alloc_new _ _
     have hownl:=own_below hownb bl
     have hpl:=hpb.below bl
     have hbl:base≤wl.heap.size:=Nat.le_trans hbs (Nat.le_trans hgb.size bl.size)
     have hln:ts.length≤1000000:=by omega
     have HNXT:=Lib.hid (show ((ts ++ [(⟨s,A,n,c,A',n',c',t⟩:TV)]).map TV.pr)=((List.range (s + 1)).filterMap (K.tourAt x.nd x.l x.ss x.r d)).map fun t=>((t.1:Int),t.2) by rw [←HNX.out,List.map_append];rfl)
     have hts1:∀ y ∈ ts,(Ints wl y.A y.n y.t.stops∧Ints wl y.A' y.n' y.t.times)∧(0 < y.n→∀ ad,y.A=some ad→u10.ownBlock ≠ some ad.block)∧(0 < y.n'→∀ ad,y.A'=some ad→u10.ownBlock ≠ some ad.block):=fun y hy=>⟨⟨((HTS.out y hy).1.1.ext hxb).below bl,((HTS.out y hy).1.2.ext hxb).below bl⟩,(HTS.out y hy).2⟩
     have HTS1:=Lib.hid hts1
     have hI1l:=hI1.below bl
     have hI2l:=hI2.below bl
     have hownl0:=hownl
     rw [hwl] at hownl hLT
     clear CB hown HPR HTS hxb hgb hownb hpb hts1 hT
     go_wp2_with (at_builtin;refine app_tour rfl (.tmp 40) (.tmp 47) rfl base u10 ts.length ts rfl hownl wb.heap.size ⟨s,A,n,c,A',n',c',t⟩ rfl hLT hln (by rw [←hwl];exact hbl) ?_;rw [←hwl];intro v' w6 hown6 hgrow6 hat6)
     have hp6:PlAz w1 w6 b mb gb x (fun g=>v'.ownBlock=some g∨Old w g) shs:=by
      refine ((hpl.turn (Y:=fun g=>(u10.ownBlock=some g∨g=wl.heap.size)∨Old w g) (fun g h=>h.elim (fun h=>h.elim (fun e=>.inl (.inl e)) fun e=>.inr (by rw [e];exact Nat.le_refl _)) (fun h=>.inl (.inr h)))).own hgrow6 (fun g e=>.inl (.inl e)) (fun g e=>Nat.le_trans hbw1 (hownl0.lt g e).1)).turn fun g h=>.inl ?_
      rcases h with h | h
      ·refine .inl ?_
       rcases hat6 with e | e
       ·rw [e] at h;exact .inl h
       ·rw [e] at h;injection h with h;exact .inr h.symm
      ·exact .inr h
     have hgo:∀ (B:Option Addr) (k:Nat) (l:List Int),Ints wl B k l→(0 < k→∀ ad,B=some ad→u10.ownBlock ≠ some ad.block)→Ints w6 B k l∧(0 < k→∀ ad,B=some ad→v'.ownBlock ≠ some ad.block):=fun B k l hI hne=>⟨hI.grow hgrow6 (fun h0 ad e e2=>hne h0 ad e e2.symm),fun h0 ad e e2=>by
      rcases hat6 with e3 | e3
      ·rw [e3] at e2;exact hne h0 ad e e2
      ·rw [e3] at e2
       injection e2 with e2
       have:=hI.lt_of h0 e
       omega⟩
     have hts6:∀ y ∈ ts ++ [(⟨s,A,n,c,A',n',c',t⟩:TV)],(Ints w6 y.A y.n y.t.stops∧Ints w6 y.A' y.n' y.t.times)∧(0 < y.n→∀ ad,y.A=some ad→v'.ownBlock ≠ some ad.block)∧(0 < y.n'→∀ ad,y.A'=some ad→v'.ownBlock ≠ some ad.block):=fun y hy=>by
      rcases List.mem_append.1 hy with hy | hy
      ·obtain ⟨⟨g1,g2⟩,g3,g4⟩:=HTS1.out y hy
       obtain ⟨f1,f2⟩:=hgo _ _ _ g1 g3
       obtain ⟨f3,f4⟩:=hgo _ _ _ g2 g4
       exact ⟨⟨f1,f3⟩,f2,f4⟩
      ·rw [List.mem_singleton] at hy
       subst hy
       obtain ⟨f1,f2⟩:=hgo _ _ _ hI1l hx2a
       obtain ⟨f3,f4⟩:=hgo _ _ _ hI2l hx3a
       exact ⟨⟨f1,f3⟩,f2,f4⟩
     have hb6:=Nat.le_trans hbl hgrow6.size
     have hl6:(ts ++ [(⟨s,A,n,c,A',n',c',t⟩:TV)]).length=ts.length + 1:=by rw [List.length_append];rfl
     clear hgo hgrow6 hat6 hwl hownl hownl0 hx2a hx3a hLT hI1l hI2l hx1 hx2 hx3 HTS1 bl t0 t1 t2 t3
     go_roundw
     case rel=>(go_light;exact ⟨s + 1,ts ++ [⟨s,A,n,c,A',n',c',t⟩],by go_num,hlt,by omega,by rw [hl6];exact hown6,hp6,hawt2,hb6,hts6,HNXT⟩)
     case measure=>(go_light;simp [intOf];omega)
   ·have hse:s=x.ss.length:=by have:=HSN.out;omega
    obtain ⟨A9,c9,rfl,hRd,hF9⟩:=own_form hown
    have hnc9:ts.length≤c9:=by
     obtain ⟨-,⟨e,e0⟩ | ⟨g',cap,cur,e,-,-,h9,-⟩⟩:=hown
     ·rw [e0];exact Nat.zero_le _
     ·injection e with e1 e2 e3;rw [e3];exact h9
    have HX:=Lib.hid (show K.plan x.nd x.l x.ss x.r=(_,0) from HPL.out)
    have HTO:=Lib.hid (show ts.map TV.pr=(K.plan x.nd x.l x.ss x.r).1.map fun t=>((t.1:Int),t.2) by rw [HPL.out,K.toursOf_eq,←hse];exact hpl.out)
    clear hse hpl
    go_wp2_with fail
    go_ret2
    refine ⟨⟨A9,ts.length,c9,ts,by rw [HX.out];rfl,⟨⟨rfl,hRd⟩,fun y hy=>(hts y hy).1⟩,hnc9,HTO.out,fun ad e=>Nat.le_trans hbse (hF9 _ (by rw [e];rfl)).1,hawt⟩,bel hb1 hpr.bw⟩
theorem plan32_any (x:Cs) (w:World) (hx:CsAt w x) :
  Calls Tryz.prog 20 #[.agg #[.int .i64 x.nd,.slice x.A x.n x.c],.slice x.SA x.sn x.sc,.slice x.B x.m x.d] w fun e w'=>RetPlan32 w w' (K.plan x.nd x.l x.ss x.r) e :=
 (plan32X x w hx).mono fun _ _ ⟨⟨A,n,c,l,h1,h2,h3,h4,_,_⟩,hb⟩=>⟨⟨A,n,c,l,h1,h2,h3,h4⟩,hb⟩
end Go.Proofs.YtippdjmpkafifaaGreat
