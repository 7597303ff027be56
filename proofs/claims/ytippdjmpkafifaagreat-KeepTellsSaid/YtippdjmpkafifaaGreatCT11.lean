import Derived.Test.YtippdjmpkafifaaGreatCT8
import Derived.Test.YtippdjmpkafifaaGreatCT10
import Derived.Deep.Light
import Derived.Test.YtippdjmpkafifaaGreatCT7
import Derived.Deep.RegionLawGrows
set_option maxRecDepth 100000
set_option maxHeartbeats 64000000
namespace Go.Proofs.YtippdjmpkafifaaGreat
open Go.RowKit
def S.cells (s:S):List Value:=[.int .i64 s.day,.int .i64 s.ag,.int .i64 s.start,.int .i64 s.end_,.int .i64 s.aj,.slice s.A s.n s.c]
def Shifts (w:World) (A:Option Addr) (n:Nat) (l:List S):Prop:=aQ S.cells 6 w A n l/\∀ s ∈ l,Ints w s.A s.n s.l
theorem Shifts.below {w w':World} {A:Option Addr} {n:Nat} {l:List S} (h:Shifts w A n l) (hb:Below w.heap.size w w'):Shifts w' A n l:=⟨aQ.below h.1 hb,λs hs=>(h.2 s hs).below hb⟩
theorem Shifts.ext {w w':World} {A:Option Addr} {n:Nat} {l:List S} (h:Shifts w A n l) (hb:Ext w w'):Shifts w' A n l:=⟨aQ.ext h.1 hb,λs hs=>(h.2 s hs).ext hb⟩
theorem Shifts.at_ {w:World} {A:Option Addr} {n k:Nat} {l:List S} (h:Shifts w A n l) (hk:k < n) :
  ∃ ad s,A=some ad/\l[k]? = some s/\Ints w s.A s.n s.l/\w.cell? (ad.add (k * 6))=some (.int .i64 s.day)/\w.cell? ⟨(ad.add (k * 6)).block,(ad.add (k * 6)).off + 1,none⟩=some (.int .i64 s.ag) /\
   w.cell? ⟨(ad.add (k * 6)).block,(ad.add (k * 6)).off + 2,none⟩=some (.int .i64 s.start)/\w.cell? ⟨(ad.add (k * 6)).block,(ad.add (k * 6)).off + 3,none⟩=some (.int .i64 s.end_) /\
   w.cell? ⟨(ad.add (k * 6)).block,(ad.add (k * 6)).off + 4,none⟩=some (.int .i64 s.aj)/\w.cell? ⟨(ad.add (k * 6)).block,(ad.add (k * 6)).off + 5,none⟩=some (.slice s.A s.n s.c):=by
 obtain ⟨ad,s,hA,hl,hc⟩:=aQ.get (f:=S.cells) (s:=6) (λ_=>rfl) h.1 hk;refine ⟨ad,s,hA,hl,h.2 s (zD hl),hc 0 _ (by omega) rfl,?_,?_,?_,?_,?_⟩ <;> rw [<-lZ _ _ _ (by omega)]
 ·exact hc 1 _ (by omega) rfl
 ·exact hc 2 _ (by omega) rfl
 ·exact hc 3 _ (by omega) rfl
 ·exact hc 4 _ (by omega) rfl
 ·exact hc 5 _ (by omega) rfl
structure Cs where
 nd:Int
 A:Option Addr
 n:Nat
 c:Nat
 l:List Ro
 SA:Option Addr
 sn:Nat
 sc:Nat
 ss:List S
 B:Option Addr
 m:Nat
 d:Nat
 r:List Q
structure bF (w:World) (x:Cs):Prop where
 net:jf w x.A x.n x.l
 shifts:Shifts w x.SA x.sn x.ss
 aN:bW w x.B x.m x.r
 b1:x.n<=1000000000
 b2:∀ s ∈ x.ss,s.n<=1000000000
 b3:x.sn<=1000000000
 b4:x.m<=1000000000
 b5:∀ q ∈ x.r,q.n<=1000000000
theorem bF.below {w w':World} {x:Cs} (h:bF w x) (hb:Below w.heap.size w w'):bF w' x:=⟨aQ.below h.net hb,h.shifts.below hb,h.aN.below hb,h.b1,h.b2,h.b3,h.b4,h.b5⟩
theorem bF.ext {w w':World} {x:Cs} (h:bF w x) (hb:Ext w w'):bF w' x:=⟨aQ.ext h.net hb,h.shifts.ext hb,h.aN.ext hb,h.b1,h.b2,h.b3,h.b4,h.b5⟩
def Cs.one (x:Cs) (s:S):C:=⟨x.nd,x.A,x.n,x.c,x.l,s,x.B,x.m,x.d,x.r⟩
theorem bF.case {w:World} {x:Cs} (h:bF w x) {s:S} (hs:s ∈ x.ss):At w (x.one s):=⟨h.net,h.shifts.2 s hs,h.aN,h.b1,h.b2 s hs,h.b4,h.b5⟩
namespace K
def jr (nd:Int) (ss:List S) (r:List Q):Int:=if ss.any (iO nd) || r.any (iw nd) then 1 else 0
theorem ahP {nd:Int} {l:List Ro} {ss:List S} {r:List Q} (h:aG nd l ≠ 0):aH nd l ss r=1:=by simp [aH,h]
theorem ahO {nd:Int} {l:List Ro} {ss:List S} {r:List Q} (h:¬ ss.length<=4):aH nd l ss r=1:=by simp [aH];intros;omega
theorem ahN {nd:Int} {l:List Ro} {ss:List S} {r:List Q} (h:aG nd l=0) (h2:ss.length<=4):aH nd l ss r=if jr nd ss r=1 then 1 else if 6 < r.length then 6 else 0:=by
 unfold aH jr;rw [h,zH h2];cases ss.any (iO nd) <;> cases r.any (iw nd) <;> simp
theorem ahM {nd:Int} {ss:List S} {r:List Q} {k:Nat} {s:S} (h:ss[k]? = some s):jr nd (ss.drop k) r=if iO nd s=true then 1 else jr nd (ss.drop (k + 1)) r:=by
 obtain ⟨hk,e⟩:=zE.1 h;unfold jr;rw [List.drop_eq_getElem_cons hk,e,List.any_cons];cases iO nd s <;> simp
theorem ahL {nd:Int} {r:List Q} {k:Nat} {q:Q} (h:r[k]? = some q):jr nd [] (r.drop k)=if iw nd q=true then 1 else jr nd [] (r.drop (k + 1)):=by
 obtain ⟨hk,e⟩:=zE.1 h;unfold jr;rw [List.drop_eq_getElem_cons hk,e,List.any_cons];cases iw nd q <;> simp
theorem ahK (nd:Int):jr nd [] [] = 0:=rfl
end K
theorem Ny (x:Cs) (w:World) (hx:bF w x) :
  Calls Tryz.prog 65 #[.agg #[.int .i64 x.nd,.slice x.A x.n x.c],.slice x.SA x.sn x.sc,.slice x.B x.m x.d] w λe w'=>e=.returned (.int .i64 (K.aH x.nd x.l x.ss x.r))/\Below w.heap.size w w':=by
 have b0:Below w.heap.size w (w.alloc (.cells #[.int .i64 x.nd,.slice x.A x.n x.c] 24)):=(Below.refl _ _).alloc (zG _) _;have hN:=Net.new w x.nd x.A x.n x.c;have afE:=hx.b3;have hmb:=hx.b4;have p0:=hN.c0;have p1:=hN.c1;go_enter Tryz.func65,Tryz.ntmps65;go_wp2_with fail;refine (uM x.nd x.A x.n x.c x.l _ (aQ.below hx.net b0) hx.b1).mono ?_;obtain ⟨ne,hne⟩:=zB (K.aG x.nd x.l);rw [<-hne];rintro e w1 ⟨rfl,b1⟩;have hb1:=bel b0 b1;have hN:=hN.below b1;clear p0 p1 b0 b1;by_cases hz:ne=0;rotate_left
 ·have HX:=zC (K.ahP (ss:=x.ss) (r:=x.r) (by rw [<-hne];exact hz));have hd:(ne != 0)=true:=by simp [bne,hz]
  clear hne;go_wp2_with fail;go_ret;exact ⟨by rw [HX.out];rfl,hb1⟩
 have LD:=zC (hne.symm.trans hz);subst hz;clear hne;by_cases hm:x.ss.length<=4;rotate_left
 ·have HX:=zC (K.ahO (nd:=x.nd) (l:=x.l) (r:=x.r) hm);have hd:decide ((4:Int) < (x.sn:Int))=true:=by rw [hx.shifts.1.1];simp;omega
  have hdn:decide (4 < x.sn)=true:=by rw [hx.shifts.1.1];simp;omega
  go_wp2_with fail;go_ret;exact ⟨by rw [HX.out];rfl,hb1⟩
 have bf:=zC hx.shifts.1.1;have aO:=zC hx.aN.1;have hd:decide ((4:Int) < (x.sn:Int))=false:=by rw [bf.out];simp;omega
 have hdn:decide (4 < x.sn)=false:=by rw [bf.out];simp;omega
 have HP:=zC (K.ahN (r:=x.r) LD.out hm);clear hm;go_wp2_with fail;clear hd hdn;go_loopw [21] (λv21 wr=>∃ k:Nat,v21=.int .i64 k/\k<=x.sn/\Hid (K.jr x.nd x.ss x.r=K.jr x.nd (x.ss.drop k) x.r)/\Below w1.heap.size w1 wr) (λv21 _=>x.sn - (intOf v21).toNat)
 case atStart=>exact ⟨0,rfl,Nat.zero_le _,rfl,Below.refl _ _⟩
 case round =>
  obtain ⟨k,rfl,hk,hpc,hbr⟩:=hrel;by_cases hlt:k < x.sn
  ·obtain ⟨ad,s,hA,hs,hI,c0,c1,c2,c3,c4,c5⟩:=(hx.shifts.below (bel hb1 hbr)).at_ hlt;have hsm:=zD hs;have HA:=zC hA;have HST:=zC (show K.jr x.nd x.ss x.r=_ from hpc.out.trans (K.ahM hs));have hsn:=hx.b2 s hsm;obtain ⟨w2,hw2⟩:=zB (wr.alloc (.cells #[.int .i64 s.day,.int .i64 s.ag,.int .i64 s.start,.int .i64 s.end_,.int .i64 s.aj,.slice s.A s.n s.c] 63));obtain ⟨g,hg⟩:=zB wr.heap.size;have b2:=zA hw2;have hS2:aT w2 g s:=by rw [hw2,hg];exact aT.new _ _
   have aY:=(hN.below hbr).below b2;have hI2:=hI.below b2;have hb2:=bel hbr b2;have k0:(0:Int)<=(k:Int):=by omega
   have k1:(k:Int) < (x.sn:Int):=by omega
   clear hs hsm hpc hI;rw [hA];go_upto_region 6 with fail;rw [<-hw2,<-hg];clear hw2 hg c0 c1 c2 c3 c4 c5 hA hbr b2;obtain ⟨s0,s1,s2,s3,s4,s5⟩:=hS2.cells;go_wp2_with fail;refine (check_any s w2 hI2 hsn).mono ?_;obtain ⟨ce,hce⟩:=zB (T.check s);rw [<-hce];rintro e w3 ⟨rfl,b3⟩;have hS3:=hS2.below b3;have hN3:=aY.below b3;have hb3:=bel hb2 b3;clear s0 s1 s2 s3 s4 s5 hS2 aY hI2 hb2 b3;by_cases hz:ce=0
   ·have hcb:(ce != 0)=false:=by simp [bne,hz]
    by_cases hdp:s.ag < x.nd
    ·have hge:decide (x.nd<=s.ag)=false:=by simp;omega
     have aV:=zC (show K.jr x.nd x.ss x.r=K.jr x.nd (x.ss.drop (k + 1)) x.r by rw [HST.out,if_neg];simp [K.iO,<-hce,hz];omega);obtain ⟨s0,s1,s2,s3,s4,s5⟩:=hS3.cells;have p0:=hN3.c0;clear hce hz hdp;go_wp2_with fail;go_roundw
     case rel=>exact ⟨k + 1,by go_num,hlt,aV.out,hb3⟩
     case measure=>simp [intOf];omega
    ·have hge:decide (x.nd<=s.ag)=true:=by simp;omega
     have HX:=zC (show K.aH x.nd x.l x.ss x.r=1 by rw [HP.out,HST.out,if_pos (show K.iO x.nd s=true by simp [K.iO];omega)];rfl);obtain ⟨s0,s1,s2,s3,s4,s5⟩:=hS3.cells;have p0:=hN3.c0;clear hce hz hdp;go_wp2_with fail;go_ret;exact ⟨by rw [HX.out];rfl,bel hb1 hb3⟩
   ·have hcb:(ce != 0)=true:=by simp [bne,hz]
    have HX:=zC (show K.aH x.nd x.l x.ss x.r=1 by rw [HP.out,HST.out,if_pos (show K.iO x.nd s=true by simp [K.iO,<-hce,hz])];rfl);clear hce hz;go_wp2_with fail;go_ret;exact ⟨by rw [HX.out];rfl,bel hb1 hb3⟩
  ·have Gx:=zC (show K.jr x.nd x.ss x.r=K.jr x.nd [] x.r by rw [hpc.out,List.drop_eq_nil_of_le (by rw [<-bf.out];omega)]);clear hpc;have hN1:=hN.below hbr;have hb1:=bel hb1 hbr;obtain ⟨w4,hw4⟩:=zB wr;rw [<-hw4] at hN1 hb1 ⊢;clear hN hbr hw4;go_wp2_with fail;go_loopw [38] (λv38 wq=>∃ k:Nat,v38=.int .i64 k/\k<=x.m/\Hid (K.jr x.nd x.ss x.r=K.jr x.nd [] (x.r.drop k))/\Below w4.heap.size w4 wq) (λv38 _=>x.m - (intOf v38).toNat)
   case atStart=>exact ⟨0,rfl,Nat.zero_le _,Gx.out,Below.refl _ _⟩
   case round =>
    clear Gx;obtain ⟨k,rfl,hk,hpc,hbr⟩:=hrel;by_cases hlt:k < x.m
    ·obtain ⟨ad,q,hA,hq,hI,c0,c1,c2,c3,c4,c5,c6⟩:=(hx.aN.below (bel hb1 hbr)).at_ hlt;have HA:=zC hA;have HST:=zC (show K.jr x.nd x.ss x.r=_ from hpc.out.trans (K.ahL hq));have hsn:=hx.b5 q (zD hq);obtain ⟨w2,hw2⟩:=zB (wr.alloc (.cells #[.int .i64 q.node,.int .i64 q.room,.int .i64 q.aF,.int .i64 q.service,.int .i64 q.aB,.int .i64 q.aA,.slice q.A q.n q.c] 47));obtain ⟨g,hg⟩:=zB wr.heap.size;have b2:=zA hw2;have hS2:jK w2 g q:=by rw [hw2,hg];exact heap_alloc_new _ _
     have aY:=(hN1.below hbr).below b2;have hI2:=hI.below b2;have hb2:=bel hbr b2;have k0:(0:Int)<=(k:Int):=by omega
     have k1:(k:Int) < (x.m:Int):=by omega
     clear hq hpc hI;rw [hA];go_upto_region 12 with fail;rw [<-hw2,<-hg];clear hw2 hg c0 c1 c2 c3 c4 c5 c6 hA hbr b2;have s0:=af hS2 0 _ rfl;have s1:=af hS2 1 _ rfl;have s2:=af hS2 2 _ rfl;have s3:=af hS2 3 _ rfl;have s4:=af hS2 4 _ rfl;have s5:=af hS2 5 _ rfl;have s6:=af hS2 6 _ rfl;go_wp2_with fail;refine (RQ q w2 hI2 hsn).mono ?_;obtain ⟨ce,hce⟩:=zB (T.right q);rw [<-hce];rintro e w3 ⟨rfl,b3⟩;have hS3:=az b3 hS2;have hN3:=aY.below b3;have hb3:=bel hb2 b3;clear s0 s1 s2 s3 s4 s5 s6 hS2 aY hI2 hb2 b3;cases ce
     ·have HX:=zC (show K.aH x.nd x.l x.ss x.r=1 by rw [HP.out,HST.out,if_pos (show K.iw x.nd q=true by simp [K.iw,<-hce])];rfl);clear hce;go_wp2_with fail;go_ret;exact ⟨by rw [HX.out];rfl,bel hb1 hb3⟩
     ·have s0:=af hS3 0 _ rfl;have p0:=hN3.c0;by_cases hdp:q.node < x.nd
      ·have hge:decide (x.nd<=q.node)=false:=by simp;omega
       have aV:=zC (show K.jr x.nd x.ss x.r=K.jr x.nd [] (x.r.drop (k + 1)) by rw [HST.out,if_neg];simp [K.iw,<-hce];omega);clear hce hdp;go_wp2_with fail;go_roundw
       case rel=>exact ⟨k + 1,by go_num,hlt,aV.out,hb3⟩
       case measure=>simp [intOf];omega
      ·have hge:decide (x.nd<=q.node)=true:=by simp;omega
       have HX:=zC (show K.aH x.nd x.l x.ss x.r=1 by rw [HP.out,HST.out,if_pos (show K.iw x.nd q=true by simp [K.iw];omega)];rfl);clear hce hdp;go_wp2_with fail;go_ret;exact ⟨by rw [HX.out];rfl,bel hb1 hb3⟩
    ·have HE:=zC (show K.aH x.nd x.l x.ss x.r=if 6 < x.m then 6 else 0 by
      rw [HP.out,hpc.out,List.drop_eq_nil_of_le (by rw [<-aO.out];omega),K.ahK,<-aO.out];rfl)
     clear hpc;by_cases h6:6 < x.m
     ·have hd:decide ((6:Int) < (x.m:Int))=true:=by simp;omega
      have hdn:decide (6 < x.m)=true:=zH h6;go_wp2_with fail;go_ret;exact ⟨by rw [HE.out,if_pos h6];rfl,bel hb1 hbr⟩
     ·have hd:decide ((6:Int) < (x.m:Int))=false:=by simp;omega
      have hdn:decide (6 < x.m)=false:=zI h6;go_wp2_with fail;go_ret;exact ⟨by rw [HE.out,if_neg h6];rfl,bel hb1 hbr⟩
end Go.Proofs.YtippdjmpkafifaaGreat
namespace Go.Proofs.YtippdjmpkafifaaGreat
open Go.RowKit
namespace K
def iota (n:Nat):List Int:=(List.range n).map λ(i:Nat)=>(i:Int)
def num (v:List Int):Nat:=v.foldl (λn i=>n + 2 ^ i.toNat) 0
theorem ahf (v:List Int) (i:Int):num (v ++ [i])=num v + 2 ^ i.toNat:=by simp [num]
theorem KE:∀ {v w:List Int},v.Sublist w->∃ m,m < 2 ^ w.length/\part w m=v
 | _,_,.slnil=>⟨0,by simp,rfl⟩
 | _,_,.cons (l₂:=l) a h=>by
  obtain ⟨m,hm,e⟩:=KE h;have h2:2 ^ (l.length + 1)=2 * 2 ^ l.length:=by rw [Nat.pow_succ];omega
  refine ⟨2 * m,by rw [List.length_cons,h2];omega,?_⟩;have h1:(2 * m).testBit 0=false:=by rw [Nat.testBit_zero];simp
  rw [part,if_neg (by rw [h1];simp),show 2 * m / 2=m by omega,e]
 | _,_,.cons_cons (l₂:=l) a h=>by
  obtain ⟨m,hm,e⟩:=KE h;have h2:2 ^ (l.length + 1)=2 * 2 ^ l.length:=by rw [Nat.pow_succ];omega
  refine ⟨2 * m + 1,by rw [List.length_cons,h2];omega,?_⟩;have h1:(2 * m + 1).testBit 0=true:=by rw [Nat.testBit_zero];simp
  rw [part,if_pos h1,show (2 * m + 1) / 2=m by omega,e]
theorem YR (n:Nat):(iota n).Pairwise (· < ·):=by
 unfold iota;rw [List.pairwise_map];exact List.pairwise_lt_range.imp λh=>by omega
theorem QI {n:Nat} {x:Int}:x ∈ iota n ↔ 0<=x/\x < (n:Int):=by
 unfold iota;rw [List.mem_map];constructor
 ·rintro ⟨i,hi,rfl⟩;rw [List.mem_range] at hi;omega
 ·intro h;exact ⟨x.toNat,by rw [List.mem_range];omega,by omega⟩
theorem ahd:∀ m:Fin 64,num (part (iota 6) m.val)=m.val:=by decide +kernel
def ZU (v:List Int) (j:Nat):Bool:=match v[j]? with
 | none=>true
 | some i=>decide (num (v.take j) < 64) && (!((num (v.take j)).testBit i.toNat) && (decide (0<=i) && decide (i < 6)))
theorem ahe:∀ m:Fin 64,∀ j:Fin 7,ZU (part (iota 6) m.val) j.val=true:=by decide +kernel
structure tJ (v:List Int) (m:Nat):Prop where
 lt:m < 64
 eq:v=part (iota 6) m
theorem FU {v:List Int} (hs:v.Pairwise (· < ·)) (hb:∀ x ∈ v,0<=x/\x < 6):∃ m,tJ v m:=by
 obtain ⟨m,h1,h2⟩:=KE (A.FZ hs (YR 6) λx hx=>QI.2 (hb x hx));have:(iota 6).length=6:=by decide
 rw [this] at h1;exact ⟨m,h1,h2.symm⟩
theorem tJ.num {v:List Int} {m:Nat} (h:tJ v m):K.num v=m:=by rw [h.eq];exact ahd ⟨m,h.lt⟩
theorem tJ.len {v:List Int} {m:Nat} (h:tJ v m):v.length<=6:=by rw [h.eq];exact Nat.le_trans (nN _ _) (by decide)
theorem tJ.at_ {v:List Int} {m j:Nat} {i:Int} (h:tJ v m) (hj:v[j]? = some i):K.num (v.take j) < 64/\(K.num (v.take j)).testBit i.toNat=false/\0<=i/\i < 6:=by
 have hl:=h.len;have hlt:=(zE.1 hj).1;have:=ahe ⟨m,h.lt⟩ ⟨j,by omega⟩;rw [<-h.eq] at this;unfold ZU at this;simp only [hj,Bool.and_eq_true,decide_eq_true_eq,Bool.not_eq_true'] at this;exact ⟨this.1,this.2.1,this.2.2.1,this.2.2.2⟩
theorem tJ.next {v:List Int} {m j:Nat} {i:Int} (_:tJ v m) (hj:v[j]? = some i):K.num (v.take (j + 1))=K.num (v.take j) + 2 ^ i.toNat:=by
 obtain ⟨hk,e⟩:=zE.1 hj;rw [List.take_succ_eq_append_getElem hk,e,ahf]
end K
structure Sh where
 A:Option Addr
 n:Nat
 c:Nat
 l:List Int
def Sh.val (s:Sh):Value:=.slice s.A s.n s.c
def lY (w:World) (gb:Nat) (ai:List Sh):Prop:=w.heap[gb]? = some (.cells (ai.map Sh.val).toArray 48 (0,0))
def vX (w:World) (b mb gb:Nat) (x:Cs):Prop :=
 w.heap[b]? = some (.cells #[.int .i64 x.nd,.slice x.A x.n x.c,.slice x.SA x.sn x.sc,.slice x.B x.m x.d,.slice (some ⟨gb,0,none⟩) x.sn x.sn,.map (some mb)] 100 (0,0))
def kS (w:World) (X:Nat->Prop) (k:Int) (b:Option K.Tr) (v:Value):Prop:=match b with
 | none=>v=.pointer none
 | some t=>∃ g A n c A' n' c',v=.pointer (some ⟨g,0,none⟩)/\gm w g k (.slice A n c) (.slice A' n' c') t.end_/\Ints w A n t.stops/\Ints w A' n' t.times/\¬ X g/\(0 < n->∀ ad,A=some ad->¬ X ad.block)/\(0 < n'->∀ ad,A'=some ad->¬ X ad.block)/\n<=c/\n'<=c'
theorem kS.ext {w w':World} {X:Nat->Prop} {k:Int} {b:Option K.Tr} {v:Value} (h:kS w X k b v) (hx:Ext w w'):kS w' X k b v:=by
 cases b with
 | none=>exact h
 | some t =>
  obtain ⟨g,A,n,c,A',n',c',h1,h2,h3,h4,h5⟩:=h;exact ⟨g,A,n,c,A',n',c',h1,hx.cells _ _ _ _ h2,h3.ext hx,h4.ext hx,h5⟩
open Go.WideMaps Go.Maps Go.WideShapes
theorem aiO:(159:TypeId) < Tryz.prog.types.size:=of_decide_eq_true (by kernel_rfl)
theorem aka:(match Tryz.prog.underlying 159 with | some (.array _ _) | some (.struct _)=>true | _=>false)=true:=by rw [Tryz.underlying159]
theorem zK:Keyed Tryz.prog 159:=Keyed.of_law (deep_law_laid laidOut (m:=2) (by omega) aiO (by kernel_rfl) aka)
theorem Vd:Tryz.prog.cellsOf 159=2:=by kernel_rfl
theorem ahE:Tryz.prog.keyType 159=true:=by kernel_rfl
theorem JU {f k:Int} (hf:(Lit.int .i64 f).wf=true) (hk:(Lit.int .i64 k).wf=true):∃ l,keyOf Tryz.prog 159 (.agg #[.int .i64 f,.int .i64 k])=some l:=by
 unfold keyOf;rw [Tryz.underlying159];simp only [ahE,Bool.true_and,Value.formed,Tryz.underlying159,Vd];have hp:=abW;generalize Tryz.prog.types.size=N at *;obtain ⟨M,rfl⟩:∃ M,N=M + 1:=⟨N - 1,by omega⟩;have h1:Tryz.prog.keyLits (M + 1 + 1) 159 [.int .i64 f,.int .i64 k] = some ([Lit.int .i64 f] ++ [Lit.int .i64 k]):=by
  simp [Program.keyLits,Tryz.underlying159,Tryz.underlying3,Vd,cells3,show List.range 2=[0,1] from rfl,hf,hk]
 have h2:(Value.agg #[Value.int IntKind.i64 f,Value.int IntKind.i64 k]).cells.toList=[.int .i64 f,.int .i64 k]:=rfl;rw [h2,h1];exact ⟨_,rfl⟩
def iK (w:World) (mb:Nat) (x:Cs) (X:Nat->Prop):Prop :=
 ∃ es clock,w.heap[mb]? = some (.map es clock)/\∀ e ∈ es.toList,∃ (k:Nat) (s:S) (m:Nat),x.ss[k]? = some s/\k<=1000000/\m < 64/\e.key=.agg #[.int .i64 (k:Int),.int .i64 (m:Int)]/\kS w X k (K.best x.nd x.l s x.r (K.part (K.iota 6) m)) e.val
theorem iK.ext {w w':World} {mb:Nat} {x:Cs} {X:Nat->Prop} (h:iK w mb x X) (hg:w.grownBy w' (some mb)):Ext w w':=by
 obtain ⟨es,clock,hm,-⟩:=h;exact Ext.JO hm hg
theorem iK.keep {w w':World} {mb:Nat} {x:Cs} {X:Nat->Prop} (h:iK w mb x X) (he:Ext w w') (hm:w'.heap[mb]? = w.heap[mb]?):iK w' mb x X:=by
 obtain ⟨es,clock,hb,hes⟩:=h;refine ⟨es,clock,hm.trans hb,λe he'=>?_⟩;obtain ⟨k,s,m,h1,h2,h3,h4,h5⟩:=hes e he';exact ⟨k,s,m,h1,h2,h3,h4,h5.ext he⟩
theorem iK.below {w w':World} {mb:Nat} {x:Cs} {X:Nat->Prop} (h:iK w mb x X) (hb:Below w.heap.size w w'):iK w' mb x X:=by
 have h1:=h;obtain ⟨es,clock,hm,-⟩:=h1;exact h.keep (Ext.below hb) (hb.block mb (Array.getElem?_eq_some_iff.1 hm).1)
theorem xB {k:Nat} (h:k<=1000000):(Lit.int .i64 (k:Int)).wf=true:=Ce (by omega) (by omega)
open Go.MapKept Go.ChangeMaps in
theorem iK.look {w:World} {mb:Nat} {x:Cs} {X:Nat->Prop} (h:iK w mb x X) {k m:Nat} {s:S} (hs:x.ss[k]? = some s) (hk:k<=1000000) (hm:m < 64) :
  ∃ v ok,(Instr.lookup 98 (.map (some mb)) (.agg #[.int .i64 (k:Int),.int .i64 (m:Int)]) true).run Tryz.prog w=.ok (.tuple #[v,.bool ok]) w/\(ok=true->kS w X k (K.best x.nd x.l s x.r (K.part (K.iota 6) m)) v)/\(ok=false->v=.pointer none):=by
 obtain ⟨es,clock,hb,hes⟩:=h;obtain ⟨kl,hkey⟩:=JU (xB hk) (xB (k:=m) (by omega));have hkeys:∀ e ∈ es.toList,∃ l,keyOf Tryz.prog 159 e.key=some l:=λe he=>by
  obtain ⟨k',s',m',-,h2,h3,h4,-⟩:=hes e he;rw [h4];exact JU (xB h2) (xB (k:=m') (by omega))
 rcases zK.find w hkey es.toList hkeys with ⟨h1,h2⟩ | ⟨j,e0,h1,h2,h3⟩
 ·refine ⟨.pointer none,false,?_,λe=>(nomatch e),λ_=>rfl⟩;simp [Instr.lookup,run_underlying Tryz.underlying98,MapKept.run_getObj_map hb,zK.check w _ hkey,h1,Result.andThen]
 ·obtain ⟨k',s',m',g1,-,-,g4,g5⟩:=hes e0 (zD h2);rw [h3] at g4;injection g4 with g4;simp at g4;obtain ⟨e1,e2⟩:=g4;have e1:k=k':=by omega
  have e2:m=m':=by omega
  subst e1 e2;rw [hs] at g1;injection g1 with g1;subst g1;refine ⟨e0.val,true,?_,λ_=>g5,λe=>(nomatch e)⟩;simp [Instr.lookup,run_underlying Tryz.underlying98,MapKept.run_getObj_map hb,zK.check w _ hkey,h1,Result.andThen]
open Go.MapKept Go.ChangeMaps in
theorem iK.store {w:World} {mb:Nat} {x:Cs} {X:Nat->Prop} (h:iK w mb x X) {k m:Nat} {s:S} (hs:x.ss[k]? = some s) (hk:k<=1000000) (hm:m < 64) {v:Value} (hv:kS w X k (K.best x.nd x.l s x.r (K.part (K.iota 6) m)) v) :
  ∃ w',(Instr.mapUpdate 98 (.map (some mb)) (.agg #[.int .i64 (k:Int),.int .i64 (m:Int)]) v).run Tryz.prog w=.ok () w'/\iK w' mb x X/\w.grownBy w' (some mb):=by
 obtain ⟨es,clock,hb,hes⟩:=h;obtain ⟨kl,hkey⟩:=JU (xB hk) (xB (k:=m) (by omega));have hkeys:∀ e ∈ es.toList,∃ l,keyOf Tryz.prog 159 e.key=some l:=λe he=>by
  obtain ⟨k',s',m',-,h2,h3,h4,-⟩:=hes e he;rw [h4];exact JU (xB h2) (xB (k:=m') (by omega))
 have hgr:∀ es' clock',w.grownBy (setBlock w mb (.map es' clock')) (some mb):=λes' clock'=>⟨rfl,rfl,rfl,by simp [setBlock],λi _ hi=>heap_setBlock_other hb _ (λe=>hi (by rw [e]))⟩;have hmk:∀ es' clock',(∀ e ∈ es'.toList,e ∈ es.toList\/(e.key=.agg #[.int .i64 (k:Int),.int .i64 (m:Int)]/\e.val=v))->iK (setBlock w mb (.map es' clock')) mb x X:=λes' clock' he=>by
  have hx:=Ext.JO hb (hgr es' clock');refine ⟨es',clock',heap_setBlock_same hb _,λe h9=>?_⟩;rcases he e h9 with h9 | ⟨h9,h10⟩
  ·obtain ⟨k',s',m',h1,h2,h3,h4,h5⟩:=hes e h9;exact ⟨k',s',m',h1,h2,h3,h4,h5.ext hx⟩
  ·exact ⟨k,s,m,hs,hk,hm,h9,by rw [h10];exact hv.ext hx⟩
 rcases zK.find w hkey es.toList hkeys with ⟨h1,h2⟩ | ⟨j,e0,h1,h2,h3⟩
 ·refine ⟨setBlock w mb (.map (es.push ⟨.agg #[.int .i64 (k:Int),.int .i64 (m:Int)],v,clock⟩) (clock + 1)),?_,hmk _ _ ?_,hgr _ _⟩
  ·simp [Instr.mapUpdate,run_underlying Tryz.underlying98,MapKept.run_getObj_map hb,zK.check w false hkey,h1,MapKept.run_setObj_map _ hb,Result.andThen,setBlock]
  ·intro e he;simp only [Array.toList_push,List.mem_append,List.mem_singleton] at he;rcases he with he | rfl
   ·exact .inl he
   ·exact .inr ⟨rfl,rfl⟩
 ·have hj:es[j]? = some e0:=by simpa using h2
  refine ⟨setBlock w mb (.map (es.modify j λe=>{ e with key:=.agg #[.int .i64 (k:Int),.int .i64 (m:Int)],val:=v }) clock),?_,hmk _ _ ?_,hgr _ _⟩
  ·simp [Instr.mapUpdate,run_underlying Tryz.underlying98,MapKept.run_getObj_map hb,zK.check w false hkey,h1,hj,h3,zK.stays w hkey,MapKept.run_setObj_map _ hb,Result.andThen,setBlock]
  ·intro e he;rw [Array.mem_toList_iff,Array.mem_iff_getElem?] at he;obtain ⟨i,he⟩:=he;rw [Array.getElem?_modify] at he;by_cases hij:j=i
   ·rw [if_pos hij,<-hij,hj] at he;simp at he;subst he;exact .inr ⟨rfl,rfl⟩
   ·rw [if_neg hij] at he;exact .inl (by rw [Array.mem_toList_iff,Array.mem_iff_getElem?];exact ⟨i,he⟩)
structure dQ (w0 w:World) (b mb gb:Nat) (x:Cs) (X:Nat->Prop) (ai:List Sh):Prop where
 case:bF w0 x
 bw:Below w0.heap.size w0 w
 hb:w0.heap.size<=b
 hm:w0.heap.size<=mb
 hg:w0.heap.size<=gb
 blk:vX w b mb gb x
 sh:lY w gb ai
 len:ai.length=x.sn
 ints:∀ s ∈ ai,Ints w s.A s.n s.l/\s.n<=s.c
 memo:iK w mb x X
 ok:K.aH x.nd x.l x.ss x.r=0
 away:∀ g,X g->w0.heap.size<=g/\g ≠ b/\g ≠ mb/\g ≠ gb/\∀ s ∈ ai,0 < s.n->∀ ad,s.A=some ad->ad.block ≠ g
theorem dQ.keep {w0 w w':World} {b mb gb:Nat} {x:Cs} {X:Nat->Prop} {ai:List Sh} (h:dQ w0 w b mb gb x X ai) (hb:Below w0.heap.size w0 w') (he:Ext w w') (hm:iK w' mb x X):dQ w0 w' b mb gb x X ai :=
 ⟨h.case,hb,h.hb,h.hm,h.hg,he.cells _ _ _ _ h.blk,he.cells _ _ _ _ h.sh,h.len,λs hs=>⟨(h.ints s hs).1.ext he,(h.ints s hs).2⟩,hm,h.ok,h.away⟩
theorem dQ.below {w0 w w':World} {b mb gb:Nat} {x:Cs} {X:Nat->Prop} {ai:List Sh} (h:dQ w0 w b mb gb x X ai) (hb:Below w.heap.size w w'):dQ w0 w' b mb gb x X ai :=
 h.keep (bel h.bw hb) (Ext.below hb) (h.memo.below hb)
theorem dQ.grown {w0 w w':World} {b mb gb:Nat} {x:Cs} {X:Nat->Prop} {ai:List Sh} (h:dQ w0 w b mb gb x X ai) (hg:w.grownBy w' (some mb)) (hm:iK w' mb x X):dQ w0 w' b mb gb x X ai :=
 h.keep (a_ h.bw hg (λk e=>by injection e with e;rw [<-e];exact h.hm)) (h.memo.ext hg) hm
def GM:Nat->Prop:=λ_=>False
theorem kS.more {w:World} {X Y:Nat->Prop} {k:Int} {b:Option K.Tr} {v:Value} (h:kS w X k b v) (hY:∀ g,g < w.heap.size->Y g->X g):kS w Y k b v:=by
 cases b with
 | none=>exact h
 | some t =>
  obtain ⟨g,A,n,c,A',n',c',h1,h2,h3,h4,h5,h6,h7,h8⟩:=h;have hlt:∀ {A:Option Addr} {n:Nat} {l:List Int},Ints w A n l->0 < n->∀ ad,A=some ad->ad.block < w.heap.size:=λhI h0 ad e=>by
   obtain ⟨ad',y,e',-,hc⟩:=hI.at_ h0;rw [e] at e';injection e' with e';rw [e'];exact cell_lt hc
  exact ⟨g,A,n,c,A',n',c',h1,h2,h3,h4,λhy=>h5 (hY _ (lt_of_block h2) hy),λh0 ad e hy=>h6 h0 ad e (hY _ (hlt h3 h0 ad e) hy),λh0 ad e hy=>h7 h0 ad e (hY _ (hlt h4 h0 ad e) hy),h8⟩
theorem iK.more {w:World} {mb:Nat} {x:Cs} {X Y:Nat->Prop} (h:iK w mb x X) (hY:∀ g,g < w.heap.size->Y g->X g):iK w mb x Y:=by
 obtain ⟨es,clock,hb,hes⟩:=h;refine ⟨es,clock,hb,λe he'=>?_⟩;obtain ⟨k,s,m,h1,h2,h3,h4,h5⟩:=hes e he';exact ⟨k,s,m,h1,h2,h3,h4,h5.more hY⟩
theorem dQ.cs {w0 w:World} {b mb gb:Nat} {x:Cs} {X:Nat->Prop} {ai:List Sh} (h:dQ w0 w b mb gb x X ai):bF w x:=h.case.below h.bw
theorem dQ.one {w0 w:World} {b mb gb:Nat} {x:Cs} {X:Nat->Prop} {ai:List Sh} (h:dQ w0 w b mb gb x X ai) {s:S} (hs:s ∈ x.ss):At w (x.one s):=h.cs.case hs
end Go.Proofs.YtippdjmpkafifaaGreat
namespace Go.Proofs.YtippdjmpkafifaaGreat
open Go.RowKit
def Uf (x:Cs) (w w':World) (e:Ending):Prop:=∃ b mb gb,e=.returned (.pointer (some ⟨b,0,none⟩))/\dQ w w' b mb gb x GM (List.replicate x.sn ⟨none,0,0,[]⟩)
theorem aa1 {x:Cs} {w w':World} {b mb gb:Nat} (hx:bF w x) (hok:K.aH x.nd x.l x.ss x.r=0) (hb:Below w.heap.size w w') (h1:w.heap.size<=b) (h2:w.heap.size<=mb) (h3:w.heap.size<=gb) (hp:vX w' b mb gb x)
  (hs:w'.heap[gb]? = some (.cells (List.replicate x.sn (Value.slice none 0 0)).toArray 48 (0,0))) (hm:w'.heap[mb]? = some (.map #[] 0)):Uf x w w' (.returned (.pointer (some ⟨b,0,none⟩))):=by
 refine ⟨b,mb,gb,rfl,hx,hb,h1,h2,h3,hp,?_,by simp,λs h=>?_,⟨#[],0,hm,λe he=>by simp at he⟩,hok,λg hg=>hg.elim⟩
 ·unfold lY;rw [hs,List.map_replicate];rfl
 ·rw [List.eq_of_mem_replicate h];exact ⟨gK _,zG _⟩
theorem ajs (x:Cs) (w:World) (hx:bF w x) (hok:K.aH x.nd x.l x.ss x.r=0) :
  Calls Tryz.prog 66 #[.agg #[.int .i64 x.nd,.slice x.A x.n x.c],.slice x.SA x.sn x.sc,.slice x.B x.m x.d] w λe w'=>Uf x w w' e:=by
 have hN:=Net.new w x.nd x.A x.n x.c;have z1:=World.size_alloc w (.cells #[.int .i64 x.nd,.slice x.A x.n x.c] 24);have b1:Below w.heap.size w (w.alloc (.cells #[.int .i64 x.nd,.slice x.A x.n x.c] 24)):=(Below.refl _ _).alloc (zG _) _;obtain ⟨w1,hw1⟩:=zB (w.alloc (.cells #[.int .i64 x.nd,.slice x.A x.n x.c] 24));have hsn:x.sn<=1000000:=by have:=(K.gQ hok).2.1;rw [hx.shifts.1.1];omega
 go_enter Tryz.func66,Tryz.ntmps66;go_wp2_with fail;rw [<-hw1] at hN z1 b1 ⊢;clear hw1;have hmk:=λw'=>JH x.sn hsn w';have hmm:=@run_makeMap Tryz.prog;have hS:∀ w',Below w1.heap.size w1 w'->(λw':World=>Below w1.heap.size w1 w'/\w'.cell? ⟨w.heap.size,0,none⟩=some (.int .i64 x.nd)/\w'.cell? ⟨w.heap.size,1,none⟩=some (.slice x.A x.n x.c)) w':=λw' h=>⟨h,(hN.below h).c0,(hN.below h).c1⟩;have S0:=hS _ (Below.refl _ _);have hSd:∀ w',(λw':World=>Below w1.heap.size w1 w'/\w'.cell? ⟨w.heap.size,0,none⟩=some (.int .i64 x.nd)/\w'.cell? ⟨w.heap.size,1,none⟩=some (.slice x.A x.n x.c)) w'->(λw':World=>Below w1.heap.size w1 w'/\w'.cell? ⟨w.heap.size,0,none⟩=some (.int .i64 x.nd)/\w'.cell? ⟨w.heap.size,1,none⟩=some (.slice x.A x.n x.c)) w'.drew:=λw' h=>hS _ h.1.drew;have dw:∀ w' o,(λw':World=>Below w1.heap.size w1 w'/\w'.cell? ⟨w.heap.size,0,none⟩=some (.int .i64 x.nd)/\w'.cell? ⟨w.heap.size,1,none⟩=some (.slice x.A x.n x.c)) w'->(λw':World=>Below w1.heap.size w1 w'/\w'.cell? ⟨w.heap.size,0,none⟩=some (.int .i64 x.nd)/\w'.cell? ⟨w.heap.size,1,none⟩=some (.slice x.A x.n x.c)) (w'.alloc o):=λw' o h=>hS _ (bel h.1 ((Below.refl _ _).alloc (zG _) _))
 go_region_held3 (λw':World=>Below w1.heap.size w1 w'/\w'.cell? ⟨w.heap.size,0,none⟩=some (.int .i64 x.nd)/\w'.cell? ⟨w.heap.size,1,none⟩=some (.slice x.A x.n x.c))
  (first | assumption | exact S0 | exact hSd _ S0 | exact hSd _ (by assumption) | exact dw _ _ (by assumption) | exact dw _ _ (dw _ _ (by assumption)) | exact dw _ _ (hSd _ S0))
  (fail)
 ·go_wp2_with fail;go_ret;have za:=World.size_alloc w1 (.cells (Array.replicate x.sn (Value.slice none 0 0)) 48);have zb:=World.size_alloc (w1.alloc (.cells (Array.replicate x.sn (Value.slice none 0 0)) 48)) (.map #[] 0);refine aa1 (mb:=w.heap.size + 1 + 1) (gb:=w.heap.size + 1) hx hok (bel b1 (bel (bel ((Below.refl _ _).alloc (zG _) _) ((Below.refl _ _).alloc (zG _) _)) (((Below.refl _ _).alloc (zG _) _).drew))) (by omega) (by omega) (by omega) ?_ ?_ ?_
  ·exact bI _ _ _ (by rw [zb,za,z1])
  ·exact bu (bu (bI _ _ _ z1.symm) _) _ |>.trans (by simp)
  ·exact bu (bI _ _ _ (by rw [za,z1])) _
 ·go_wp2_with fail;go_ret;have za:=World.size_alloc w1 (.map #[] 0);have zb:=World.size_alloc (w1.alloc (.map #[] 0)) (.cells (Array.replicate x.sn (Value.slice none 0 0)) 48);refine aa1 (mb:=w.heap.size + 1) (gb:=w.heap.size + 1 + 1) hx hok (bel b1 (bel (bel ((Below.refl _ _).alloc (zG _) _) ((Below.refl _ _).alloc (zG _) _)) (((Below.refl _ _).alloc (zG _) _).drew))) (by omega) (by omega) (by omega) ?_ ?_ ?_
  ·exact bI _ _ _ (by rw [zb,za,z1])
  ·exact bu (bI _ _ _ (by rw [za,z1])) _ |>.trans (by simp)
  ·exact bu (bu (bI _ _ _ z1.symm) _) _
def acE (w0 w w':World) (b mb gb:Nat) (x:Cs) (X:Nat->Prop) (ai:List Sh) (k:Nat) (t:Option K.Tr) (e:Ending):Prop :=
 (∃ u,e=.returned u/\kS w' X k t u)/\w.grownBy w' (some mb)/\dQ w0 w' b mb gb x X ai
theorem Ints.nM {w:World} {A:Option Addr} {n:Nat} {l:List Int} (h:Ints w A n l) (h0:0 < n) {ad:Addr} (e:A=some ad):ad.block < w.heap.size:=by
 obtain ⟨ad',y,e',-,hc⟩:=h.at_ h0;rw [e] at e';injection e' with e';rw [e'];exact cell_lt hc
theorem Ints.set1 {w:World} {A:Option Addr} {n:Nat} {l:List Int} (h:Ints w A n l) {g i:Nat} (u:Value) (hg:0 < n->∀ ad,A=some ad->ad.block ≠ g):Ints (w.setCell ⟨g,i,none⟩ u) A n l:=by
 by_cases h0:0 < n
 ·exact h.set u (hg h0)
 ·exact ⟨h.1,h.2.1,λh1=>absurd h1 h0⟩
def vU (w:World) (H:Nat) (k m:Int):Prop:=w.heap[H]? = some (.cells #[.int .i64 k,.int .i64 m] 159 (0,0))
def pF (b mb gb H k m:Nat) (x:Cs) (s:S) (ad:Addr) (w':World):Prop:=(λw':World=>w'.cell? ⟨H,0,none⟩=some (.int .i64 (k:Int))/\w'.cell? ⟨H,1,none⟩=some (.int .i64 (m:Int))/\w'.cell? ⟨b,0,none⟩=some (.int .i64 x.nd)/\w'.cell? ⟨b,1,none⟩=some (.slice x.A x.n x.c)/\w'.cell? ⟨b,2,none⟩=some (.slice (some ad) x.sn x.sc)/\w'.cell? ⟨b,3,none⟩=some (.slice x.B x.m x.d)/\w'.cell? ⟨b,4,none⟩=some (.slice (some ⟨gb,0,none⟩) x.sn x.sn)/\w'.cell? ⟨b,5,none⟩=some (.map (some mb))/\w'.cell? (ad.add (k * 6))=some (.int .i64 s.day)/\w'.cell? ⟨(ad.add (k * 6)).block,(ad.add (k * 6)).off + 1,none⟩=some (.int .i64 s.ag)/\w'.cell? ⟨(ad.add (k * 6)).block,(ad.add (k * 6)).off + 2,none⟩=some (.int .i64 s.start)/\w'.cell? ⟨(ad.add (k * 6)).block,(ad.add (k * 6)).off + 3,none⟩=some (.int .i64 s.end_)/\w'.cell? ⟨(ad.add (k * 6)).block,(ad.add (k * 6)).off + 4,none⟩=some (.int .i64 s.aj)/\w'.cell? ⟨(ad.add (k * 6)).block,(ad.add (k * 6)).off + 5,none⟩=some (.slice s.A s.n s.c)) w'
theorem pF.mk' {w w':World} {b mb gb H k m:Nat} {x:Cs} {s:S} {ad:Addr} (hK:vU w H k m) (hb:vX w b mb gb x) (hA:x.SA=some ad) (hs:x.ss[k]? = some s) (hx:bF w x) (he:Ext w w'):pF b mb gb H k m x s ad w':=by
 have hb':vX w' b mb gb x:=he.cells _ _ _ _ hb;have hK':vU w' H k m:=he.cells _ _ _ _ hK;have hlt:k < x.sn:=by rw [hx.shifts.1.1];exact (zE.1 hs).1
 obtain ⟨ad',s',hA',hs',-,c0,c1,c2,c3,c4,c5⟩:=(hx.ext he).shifts.at_ hlt;rw [hA] at hA';injection hA' with hA';subst hA';rw [hs] at hs';injection hs' with hs';subst hs';refine ⟨af hK' 0 _ rfl,af hK' 1 _ rfl,af hb' 0 _ rfl,af hb' 1 _ rfl,?_,af hb' 3 _ rfl,af hb' 4 _ rfl,af hb' 5 _ rfl,c0,c1,c2,c3,c4,c5⟩;rw [<-hA];exact af hb' 2 _ rfl
def Old (w:World) (g:Nat):Prop:=g < w.heap.size
def NT (w:World) (ts:List TV):Prop:=∀ y ∈ ts,(0 < y.n->∀ ad,y.A=some ad->w.heap.size<=ad.block)/\(0 < y.n'->∀ ad,y.A'=some ad->w.heap.size<=ad.block)/\y.n<=y.c/\y.n'<=y.c'
theorem NT.snoc {w:World} {ts:List TV} (h:NT w ts) {y:TV} (h1:0 < y.n->∀ ad,y.A=some ad->w.heap.size<=ad.block) (h2:0 < y.n'->∀ ad,y.A'=some ad->w.heap.size<=ad.block) (h3:y.n<=y.c/\y.n'<=y.c'):NT w (ts ++ [y]):=λz hz=>by
 rcases List.mem_append.1 hz with hz | hz
 ·exact h z hz
 ·rw [List.mem_singleton.1 hz];exact ⟨h1,h2,h3⟩
structure eP (w0 w:World) (b mb gb:Nat) (x:Cs) (X:Nat->Prop) (ai:List Sh):Prop where
 case:bF w0 x
 bw:Below w0.heap.size w0 w
 hb:w0.heap.size<=b
 hm:w0.heap.size<=mb
 hg:w0.heap.size<=gb
 blk:vX w b mb gb x
 sh:lY w gb ai
 len:ai.length=x.sn
 ints:∀ s ∈ ai,Ints w s.A s.n s.l/\s.n<=s.c
 memo:iK w mb x X
 ok:K.aH x.nd x.l x.ss x.r=0
 away:∀ g,X g->0<=g/\g ≠ b/\g ≠ mb/\g ≠ gb/\∀ s ∈ ai,0 < s.n->∀ ad,s.A=some ad->ad.block ≠ g
theorem eP.keep {w0 w w':World} {b mb gb:Nat} {x:Cs} {X:Nat->Prop} {ai:List Sh} (h:eP w0 w b mb gb x X ai) (hb:Below w0.heap.size w0 w') (he:Ext w w') (hm:iK w' mb x X):eP w0 w' b mb gb x X ai :=
 ⟨h.case,hb,h.hb,h.hm,h.hg,he.cells _ _ _ _ h.blk,he.cells _ _ _ _ h.sh,h.len,λs hs=>⟨(h.ints s hs).1.ext he,(h.ints s hs).2⟩,hm,h.ok,h.away⟩
theorem eP.below {w0 w w':World} {b mb gb:Nat} {x:Cs} {X:Nat->Prop} {ai:List Sh} (h:eP w0 w b mb gb x X ai) (hb:Below w.heap.size w w'):eP w0 w' b mb gb x X ai :=
 h.keep (bel h.bw hb) (Ext.below hb) (h.memo.below hb)
theorem eP.grown {w0 w w':World} {b mb gb:Nat} {x:Cs} {X:Nat->Prop} {ai:List Sh} (h:eP w0 w b mb gb x X ai) (hg:w.grownBy w' (some mb)) (hm:iK w' mb x X):eP w0 w' b mb gb x X ai :=
 h.keep (a_ h.bw hg (λk e=>by injection e with e;rw [<-e];exact h.hm)) (h.memo.ext hg) hm
theorem eP.cs {w0 w:World} {b mb gb:Nat} {x:Cs} {X:Nat->Prop} {ai:List Sh} (h:eP w0 w b mb gb x X ai):bF w x:=h.case.below h.bw
theorem eP.one {w0 w:World} {b mb gb:Nat} {x:Cs} {X:Nat->Prop} {ai:List Sh} (h:eP w0 w b mb gb x X ai) {s:S} (hs:s ∈ x.ss):At w (x.one s):=h.cs.case hs
def Ug (x:Cs) (w w':World) (e:Ending):Prop:=∃ b mb gb,e=.returned (.pointer (some ⟨b,0,none⟩))/\∀ X:Nat->Prop,(∀ g,X g->g < w.heap.size)->eP w w' b mb gb x X (List.replicate x.sn ⟨none,0,0,[]⟩)
theorem aa0 {x:Cs} {w w':World} {b mb gb:Nat} (hx:bF w x) (hok:K.aH x.nd x.l x.ss x.r=0) (hb:Below w.heap.size w w') (h1:w.heap.size<=b) (h2:w.heap.size<=mb) (h3:w.heap.size<=gb) (hp:vX w' b mb gb x)
  (hs:w'.heap[gb]? = some (.cells (List.replicate x.sn (Value.slice none 0 0)).toArray 48 (0,0))) (hm:w'.heap[mb]? = some (.map #[] 0)):Ug x w w' (.returned (.pointer (some ⟨b,0,none⟩))):=by
 refine ⟨b,mb,gb,rfl,λX hX=>⟨hx,hb,h1,h2,h3,hp,?_,by simp,λs h=>?_,⟨#[],0,hm,λe he=>by simp at he⟩,hok,λg hg=>⟨Nat.zero_le _,by have:=hX g hg;omega,by have:=hX g hg;omega,by have:=hX g hg;omega,λs hs h0=>absurd h0 (by rw [List.eq_of_mem_replicate hs];exact Nat.lt_irrefl _)⟩⟩⟩
 ·unfold lY;rw [hs,List.map_replicate];rfl
 ·rw [List.eq_of_mem_replicate h];exact ⟨gK _,zG _⟩
theorem ajr (x:Cs) (w:World) (hx:bF w x) (hok:K.aH x.nd x.l x.ss x.r=0) :
  Calls Tryz.prog 66 #[.agg #[.int .i64 x.nd,.slice x.A x.n x.c],.slice x.SA x.sn x.sc,.slice x.B x.m x.d] w λe w'=>Ug x w w' e:=by
 have hN:=Net.new w x.nd x.A x.n x.c;have z1:=World.size_alloc w (.cells #[.int .i64 x.nd,.slice x.A x.n x.c] 24);have b1:Below w.heap.size w (w.alloc (.cells #[.int .i64 x.nd,.slice x.A x.n x.c] 24)):=(Below.refl _ _).alloc (zG _) _;obtain ⟨w1,hw1⟩:=zB (w.alloc (.cells #[.int .i64 x.nd,.slice x.A x.n x.c] 24));have hsn:x.sn<=1000000:=by have:=(K.gQ hok).2.1;rw [hx.shifts.1.1];omega
 go_enter Tryz.func66,Tryz.ntmps66;go_wp2_with fail;rw [<-hw1] at hN z1 b1 ⊢;clear hw1;have hmk:=λw'=>JH x.sn hsn w';have hmm:=@run_makeMap Tryz.prog;have hS:∀ w',Below w1.heap.size w1 w'->(λw':World=>Below w1.heap.size w1 w'/\w'.cell? ⟨w.heap.size,0,none⟩=some (.int .i64 x.nd)/\w'.cell? ⟨w.heap.size,1,none⟩=some (.slice x.A x.n x.c)) w':=λw' h=>⟨h,(hN.below h).c0,(hN.below h).c1⟩;have S0:=hS _ (Below.refl _ _);have hSd:∀ w',(λw':World=>Below w1.heap.size w1 w'/\w'.cell? ⟨w.heap.size,0,none⟩=some (.int .i64 x.nd)/\w'.cell? ⟨w.heap.size,1,none⟩=some (.slice x.A x.n x.c)) w'->(λw':World=>Below w1.heap.size w1 w'/\w'.cell? ⟨w.heap.size,0,none⟩=some (.int .i64 x.nd)/\w'.cell? ⟨w.heap.size,1,none⟩=some (.slice x.A x.n x.c)) w'.drew:=λw' h=>hS _ h.1.drew;have dw:∀ w' o,(λw':World=>Below w1.heap.size w1 w'/\w'.cell? ⟨w.heap.size,0,none⟩=some (.int .i64 x.nd)/\w'.cell? ⟨w.heap.size,1,none⟩=some (.slice x.A x.n x.c)) w'->(λw':World=>Below w1.heap.size w1 w'/\w'.cell? ⟨w.heap.size,0,none⟩=some (.int .i64 x.nd)/\w'.cell? ⟨w.heap.size,1,none⟩=some (.slice x.A x.n x.c)) (w'.alloc o):=λw' o h=>hS _ (bel h.1 ((Below.refl _ _).alloc (zG _) _))
 go_region_held3 (λw':World=>Below w1.heap.size w1 w'/\w'.cell? ⟨w.heap.size,0,none⟩=some (.int .i64 x.nd)/\w'.cell? ⟨w.heap.size,1,none⟩=some (.slice x.A x.n x.c))
  (first | assumption | exact S0 | exact hSd _ S0 | exact hSd _ (by assumption) | exact dw _ _ (by assumption) | exact dw _ _ (dw _ _ (by assumption)) | exact dw _ _ (hSd _ S0))
  (fail)
 ·go_wp2_with fail;go_ret;have za:=World.size_alloc w1 (.cells (Array.replicate x.sn (Value.slice none 0 0)) 48);have zb:=World.size_alloc (w1.alloc (.cells (Array.replicate x.sn (Value.slice none 0 0)) 48)) (.map #[] 0);refine aa0 (mb:=w.heap.size + 1 + 1) (gb:=w.heap.size + 1) hx hok (bel b1 (bel (bel ((Below.refl _ _).alloc (zG _) _) ((Below.refl _ _).alloc (zG _) _)) (((Below.refl _ _).alloc (zG _) _).drew))) (by omega) (by omega) (by omega) ?_ ?_ ?_
  ·exact bI _ _ _ (by rw [zb,za,z1])
  ·exact bu (bu (bI _ _ _ z1.symm) _) _ |>.trans (by simp)
  ·exact bu (bI _ _ _ (by rw [za,z1])) _
 ·go_wp2_with fail;go_ret;have za:=World.size_alloc w1 (.map #[] 0);have zb:=World.size_alloc (w1.alloc (.map #[] 0)) (.cells (Array.replicate x.sn (Value.slice none 0 0)) 48);refine aa0 (mb:=w.heap.size + 1) (gb:=w.heap.size + 1 + 1) hx hok (bel b1 (bel (bel ((Below.refl _ _).alloc (zG _) _) ((Below.refl _ _).alloc (zG _) _)) (((Below.refl _ _).alloc (zG _) _).drew))) (by omega) (by omega) (by omega) ?_ ?_ ?_
  ·exact bI _ _ _ (by rw [zb,za,z1])
  ·exact bu (bI _ _ _ (by rw [za,z1])) _ |>.trans (by simp)
  ·exact bu (bu (bI _ _ _ z1.symm) _) _
def acF (w0 w w':World) (b mb gb:Nat) (x:Cs) (X:Nat->Prop) (ai:List Sh) (k:Nat) (t:Option K.Tr) (e:Ending):Prop :=
 (∃ u,e=.returned u/\kS w' X k t u)/\w.grownBy w' (some mb)/\eP w0 w' b mb gb x X ai
theorem Nr (w0:World) (b mb gb:Nat) (x:Cs) {X:Nat->Prop} (ai:List Sh) (k:Nat) (s:S) (V:Option Addr) (vn vc:Nat) (v:List Int) (w:World) (hp:eP w0 w b mb gb x X ai) (hX:∀ g,X g->g < w.heap.size) (hs:x.ss[k]? = some s) (hV:Ints w V vn v) (lg:vn<=vc) (hvs:v.Pairwise (· < ·)) (hvb:∀ i ∈ v,0<=i/\i < (x.r.length:Int)) :
  Calls Tryz.prog 68 #[.pointer (some ⟨b,0,none⟩),.int .i64 k,.slice V vn vc] w λe w'=>acF w0 w w' b mb gb x X ai k (K.best x.nd x.l s x.r v) e:=by
 obtain ⟨h1,h2,h3,h4,h5⟩:=K.gQ hp.ok;obtain ⟨m,h6⟩:=K.FU hvs λi hi=>by have:=hvb i hi;omega
 have hm:=h6.lt;have hsm:=zD hs;have aJ:=zC (K.JQ hp.ok hsm hvs hvb);have hlt:k < x.ss.length:=(zE.1 hs).1;have hsn:=hp.case.shifts.1.1;have aff:k < x.sn:=by rw [hsn];exact hlt
 have hk4:k<=4:=by omega
 have hk6:k<=1000000:=by omega
 have hv6:vn<=6:=by rw [hV.1];exact h6.len
 have HL:=zC hV.1;have HS:=zC hs;have H6:=zC h6;obtain ⟨ad,-,hA,-⟩:=hp.cs.shifts.at_ aff;have HA:=zC hA;have akQ:w0.heap.size<=w.heap.size:=hp.bw.size;clear h1 h2 h3 h4 h5 hvs hvb hsm hlt hsn hs h6 hA;obtain ⟨w1,hw1⟩:=zB (w.alloc (.cells #[.int .i64 k,.int .i64 0] 159));obtain ⟨H,hH⟩:=zB w.heap.size;have b1:=zA hw1;have hK1:vU w1 H k 0:=by rw [hw1,hH];exact heap_alloc_new _ _
 have HH:=zC hH;go_enter Tryz.func68,Tryz.ntmps68;go_upto_region 3 with fail;rw [<-hw1,<-hH];clear hw1 hH;go_loopw [18] (λv18 wr=>∃ j:Nat,v18=.int .i64 j/\j<=vn/\vU wr H k (K.num (v.take j))/\Below w.heap.size w wr) (λv18 _=>vn - (intOf v18).toNat)
 case atStart=>exact ⟨0,rfl,Nat.zero_le _,hK1,b1⟩
 case round =>
  clear hK1 b1;obtain ⟨j,rfl,hj,hK,hbr⟩:=hrel;by_cases hlt:j < vn
  ·obtain ⟨iM,i,OT,hi,ci⟩:=(hV.below hbr).at_ hlt;obtain ⟨g1,g2,g3,g4⟩:=H6.out.at_ hi;have HN:=zC (H6.out.next hi);obtain ⟨i,rfl⟩:∃ n:Nat,i=(n:Int):=⟨i.toNat,by omega⟩;rw [Int.toNat_natCast] at g2 HN;obtain ⟨nm,hnm⟩:=zB (K.num (v.take j));rw [<-hnm] at g1 g2 hK HN;obtain ⟨mm,hmm⟩:=zB (nm + 2 ^ i);have hor:bits BinOp.or IntKind.i64 (nm:Int) (IntKind.i64.wrap (2 ^ i))=(mm:Int):=by rw [pz (by omega),Hy g1 (by omega) g2,hmm]
   have Yk:bits BinOp.or IntKind.i64 (nm:Int) (wrap64 (2 ^ i))=(mm:Int):=by rw [<-IntWalk.i64_left];exact hor
   have HM:=zC (show K.num (v.take (j + 1))=mm by rw [HN.out,hmm]);have c0:=af hK 0 _ rfl;have c1:=af hK 1 _ rfl;have f1:=gI hK;have k0:(0:Int)<=(j:Int):=by omega
   have k1:(j:Int) < (vn:Int):=by omega
   have k2:(0:Int)<=(i:Int):=by omega
   have k3:(i:Int) < 64:=by omega
   have HI6:=zC (show i < 6 by omega);clear hi hmm hnm HN g1 g2 g3 g4;rw [OT];go_wp2_with fail;go_region
   go_wp2_with fail;go_roundw
   case rel=>exact ⟨j + 1,by go_num,hlt,by rw [HM.out];exact bg hK 1 _,(hbr.setCell (by rw [HH.out];exact zG _) _).drew⟩
   case measure=>simp [intOf];omega
  ·have hK:vU wr H k m:=by
    have h9:=hK;rw [List.take_of_length_le (by rw [<-HL.out];omega),H6.out.num] at h9;exact h9
   have hp1:=hp.below hbr;have HP:=zC hp1;have HK:=zC hK;have HB:=zC hbr;have hmk:∀ w',Below wr.heap.size wr w'->pF b mb gb H k m x s ad w':=λw' h=>pF.mk' HK.out HP.out.blk HA.out HS.out HP.out.cs (Ext.below h);have hbd:Below wr.heap.size wr wr.drew:=(Below.refl _ _).drew;have S0:(λw':World=>w'.cell? ⟨H,0,none⟩=some (.int .i64 (k:Int))/\w'.cell? ⟨H,1,none⟩=some (.int .i64 (m:Int))/\w'.cell? ⟨b,0,none⟩=some (.int .i64 x.nd)/\w'.cell? ⟨b,1,none⟩=some (.slice x.A x.n x.c)/\w'.cell? ⟨b,2,none⟩=some (.slice (some ad) x.sn x.sc)/\w'.cell? ⟨b,3,none⟩=some (.slice x.B x.m x.d)/\w'.cell? ⟨b,4,none⟩=some (.slice (some ⟨gb,0,none⟩) x.sn x.sn)/\w'.cell? ⟨b,5,none⟩=some (.map (some mb))/\w'.cell? (ad.add (k * 6))=some (.int .i64 s.day)/\w'.cell? ⟨(ad.add (k * 6)).block,(ad.add (k * 6)).off + 1,none⟩=some (.int .i64 s.ag)/\w'.cell? ⟨(ad.add (k * 6)).block,(ad.add (k * 6)).off + 2,none⟩=some (.int .i64 s.start)/\w'.cell? ⟨(ad.add (k * 6)).block,(ad.add (k * 6)).off + 3,none⟩=some (.int .i64 s.end_)/\w'.cell? ⟨(ad.add (k * 6)).block,(ad.add (k * 6)).off + 4,none⟩=some (.int .i64 s.aj)/\w'.cell? ⟨(ad.add (k * 6)).block,(ad.add (k * 6)).off + 5,none⟩=some (.slice s.A s.n s.c)) wr:=hmk _ (Below.refl _ _);have aW:(λw':World=>w'.cell? ⟨H,0,none⟩=some (.int .i64 (k:Int))/\w'.cell? ⟨H,1,none⟩=some (.int .i64 (m:Int))/\w'.cell? ⟨b,0,none⟩=some (.int .i64 x.nd)/\w'.cell? ⟨b,1,none⟩=some (.slice x.A x.n x.c)/\w'.cell? ⟨b,2,none⟩=some (.slice (some ad) x.sn x.sc)/\w'.cell? ⟨b,3,none⟩=some (.slice x.B x.m x.d)/\w'.cell? ⟨b,4,none⟩=some (.slice (some ⟨gb,0,none⟩) x.sn x.sn)/\w'.cell? ⟨b,5,none⟩=some (.map (some mb))/\w'.cell? (ad.add (k * 6))=some (.int .i64 s.day)/\w'.cell? ⟨(ad.add (k * 6)).block,(ad.add (k * 6)).off + 1,none⟩=some (.int .i64 s.ag)/\w'.cell? ⟨(ad.add (k * 6)).block,(ad.add (k * 6)).off + 2,none⟩=some (.int .i64 s.start)/\w'.cell? ⟨(ad.add (k * 6)).block,(ad.add (k * 6)).off + 3,none⟩=some (.int .i64 s.end_)/\w'.cell? ⟨(ad.add (k * 6)).block,(ad.add (k * 6)).off + 4,none⟩=some (.int .i64 s.aj)/\w'.cell? ⟨(ad.add (k * 6)).block,(ad.add (k * 6)).off + 5,none⟩=some (.slice s.A s.n s.c)) wr.drew:=hmk _ hbd;obtain ⟨val,ok,hlook,hy,hn⟩:=(hp1.memo.below hbd).look HS.out hk6 hm;rw [<-H6.out.eq] at hy;clear hp1 hK hbr hmk;go_wp2_with fail
   go_region_held3 (λw':World=>w'.cell? ⟨H,0,none⟩=some (.int .i64 (k:Int))/\w'.cell? ⟨H,1,none⟩=some (.int .i64 (m:Int))/\w'.cell? ⟨b,0,none⟩=some (.int .i64 x.nd)/\w'.cell? ⟨b,1,none⟩=some (.slice x.A x.n x.c)/\w'.cell? ⟨b,2,none⟩=some (.slice (some ad) x.sn x.sc)/\w'.cell? ⟨b,3,none⟩=some (.slice x.B x.m x.d)/\w'.cell? ⟨b,4,none⟩=some (.slice (some ⟨gb,0,none⟩) x.sn x.sn)/\w'.cell? ⟨b,5,none⟩=some (.map (some mb))/\w'.cell? (ad.add (k * 6))=some (.int .i64 s.day)/\w'.cell? ⟨(ad.add (k * 6)).block,(ad.add (k * 6)).off + 1,none⟩=some (.int .i64 s.ag)/\w'.cell? ⟨(ad.add (k * 6)).block,(ad.add (k * 6)).off + 2,none⟩=some (.int .i64 s.start)/\w'.cell? ⟨(ad.add (k * 6)).block,(ad.add (k * 6)).off + 3,none⟩=some (.int .i64 s.end_)/\w'.cell? ⟨(ad.add (k * 6)).block,(ad.add (k * 6)).off + 4,none⟩=some (.int .i64 s.aj)/\w'.cell? ⟨(ad.add (k * 6)).block,(ad.add (k * 6)).off + 5,none⟩=some (.slice s.A s.n s.c))
    (first | with_reducible exact aW | with_reducible exact S0 | fail)
    (fail)
   obtain ⟨wd,hwd⟩:=zB wr.drew;rw [<-hwd] at hy hbd ⊢;have hp2:=HP.out.below hbd;have hg2:w.grownBy wd (some mb):=fM (fM (ni w _) HB.out) hbd;clear hlook S0 aW hwd;cases ok
   ·obtain rfl:=hn rfl;clear hy hn;have hK2:vU wd H k m:=az hbd HK.out;have HP2:=zC hp2;have CQ:=zC hK2;have HG2:=zC hg2;have qi:=hV.below (bel HB.out hbd);have hmk:∀ w',Below wd.heap.size wd w'->(λw':World=>w'.cell? ⟨H,0,none⟩=some (.int .i64 (k:Int))/\w'.cell? ⟨H,1,none⟩=some (.int .i64 (m:Int))/\w'.cell? ⟨b,0,none⟩=some (.int .i64 x.nd)/\w'.cell? ⟨b,1,none⟩=some (.slice x.A x.n x.c)/\w'.cell? ⟨b,2,none⟩=some (.slice (some ad) x.sn x.sc)/\w'.cell? ⟨b,3,none⟩=some (.slice x.B x.m x.d)/\w'.cell? ⟨b,4,none⟩=some (.slice (some ⟨gb,0,none⟩) x.sn x.sn)/\w'.cell? ⟨b,5,none⟩=some (.map (some mb))/\w'.cell? (ad.add (k * 6))=some (.int .i64 s.day)/\w'.cell? ⟨(ad.add (k * 6)).block,(ad.add (k * 6)).off + 1,none⟩=some (.int .i64 s.ag)/\w'.cell? ⟨(ad.add (k * 6)).block,(ad.add (k * 6)).off + 2,none⟩=some (.int .i64 s.start)/\w'.cell? ⟨(ad.add (k * 6)).block,(ad.add (k * 6)).off + 3,none⟩=some (.int .i64 s.end_)/\w'.cell? ⟨(ad.add (k * 6)).block,(ad.add (k * 6)).off + 4,none⟩=some (.int .i64 s.aj)/\w'.cell? ⟨(ad.add (k * 6)).block,(ad.add (k * 6)).off + 5,none⟩=some (.slice s.A s.n s.c)) w':=λw' h=>pF.mk' CQ.out HP2.out.blk HA.out HS.out HP2.out.cs (Ext.below h);have hbd0:Below wd.heap.size wd wd:=Below.refl _ _;have S0:=hmk _ hbd0;obtain ⟨Y,hY⟩:=zB (K.gG x.nd x.l s x.r v);have HY:=zC hY;have ba:Below wd.heap.size wd (wd.alloc (.cells #[.int .i64 0,.slice none 0 0,.slice none 0 0,.int .i64 0] 80)):=(Below.refl _ _).alloc (zG _) _;have qV:=hmk _ ba;have aW:=hmk _ hbd0.drew;have qW:=hmk _ ba.drew;have hAt:=λw' (h:Below wd.heap.size wd w')=>(HP2.out.below h).one (zD HS.out);have EI:vn<=1000000000:=by omega
    have MJ:=zC (show ∀ g,wd.heap.size<=g->X g->False from λg h1 h2=>by have:=hX g h2;have:=HB.out.size;have:=hbd.size;omega);clear hY hp2 hK2 hg2;go_wp2_with fail;go_cut [12,13] from 40 to 59 (λv12 v13 wc=>∃ g A n c A' n' c',v12=.pointer (some ⟨g,0,none⟩)/\v13=.int .i64 Y.2/\gm wc g 0 (.slice A n c) (.slice A' n' c') Y.1.end_/\Ints wc A n Y.1.stops/\Ints wc A' n' Y.1.times/\Below wd.heap.size wd wc/\wd.heap.size<=g/\(0 < n->∀ ad,A=some ad->ad.block ≠ g)/\(0 < n'->∀ ad,A'=some ad->ad.block ≠ g)/\(∀ ad,A=some ad->wd.heap.size<=ad.block)/\(∀ ad,A'=some ad->wd.heap.size<=ad.block)/\n<=c/\n'<=c')
    case first =>
     go_region_held3 (λw':World=>w'.cell? ⟨H,0,none⟩=some (.int .i64 (k:Int))/\w'.cell? ⟨H,1,none⟩=some (.int .i64 (m:Int))/\w'.cell? ⟨b,0,none⟩=some (.int .i64 x.nd)/\w'.cell? ⟨b,1,none⟩=some (.slice x.A x.n x.c)/\w'.cell? ⟨b,2,none⟩=some (.slice (some ad) x.sn x.sc)/\w'.cell? ⟨b,3,none⟩=some (.slice x.B x.m x.d)/\w'.cell? ⟨b,4,none⟩=some (.slice (some ⟨gb,0,none⟩) x.sn x.sn)/\w'.cell? ⟨b,5,none⟩=some (.map (some mb))/\w'.cell? (ad.add (k * 6))=some (.int .i64 s.day)/\w'.cell? ⟨(ad.add (k * 6)).block,(ad.add (k * 6)).off + 1,none⟩=some (.int .i64 s.ag)/\w'.cell? ⟨(ad.add (k * 6)).block,(ad.add (k * 6)).off + 2,none⟩=some (.int .i64 s.start)/\w'.cell? ⟨(ad.add (k * 6)).block,(ad.add (k * 6)).off + 3,none⟩=some (.int .i64 s.end_)/\w'.cell? ⟨(ad.add (k * 6)).block,(ad.add (k * 6)).off + 4,none⟩=some (.int .i64 s.aj)/\w'.cell? ⟨(ad.add (k * 6)).block,(ad.add (k * 6)).off + 5,none⟩=some (.slice s.A s.n s.c))
      (first | with_reducible exact Dp | with_reducible exact Dn | with_reducible exact xZ | with_reducible exact S1 | with_reducible exact qW | with_reducible exact qV | with_reducible exact aW | with_reducible exact S0 | fail)
      (first
       | (go_at_call 125;refine (ac1 (x.one s) V vn vc v _ (hAt _ ?_) (qi.below ?_) lg EI).mono ?_;(first | with_reducible exact hbd0 | with_reducible exact ba | with_reducible exact hbd0.drew | with_reducible exact ba.drew);(first | with_reducible exact hbd0 | with_reducible exact ba | with_reducible exact hbd0.drew | with_reducible exact ba.drew);rw [show K.gG (x.one s).nd (x.one s).l (x.one s).s (x.one s).r v=Y from HY.out.symm];rintro e w5 ⟨⟨A0,n0,c0,A1,n1,c1,rfl,hI0,hI1,hf0,hf1,hk0,hk1⟩,hbn⟩;(first | (have b5:=bel hbd0.drew hbn;have ww:=bel b5 ((Below.refl _ _).alloc (zG _) (.cells #[.int .i64 0,.slice A0 n0 c0,.slice A1 n1 c1,.int .i64 Y.1.end_] 80));have Dn:=hmk _ ww;have xZ:=hmk _ (bel b5 ((Below.refl _ _).alloc (zG _) (.cells #[.int .i64 0,.slice none 0 0,.slice none 0 0,.int .i64 0] 80)))) | (have b5:=bel ba.drew hbn;have dA:=az hbn (heap_alloc_new wd (.cells #[.int .i64 0,.slice none 0 0,.slice none 0 0,.int .i64 0] 80));have Dp:=hmk _ (jM b5 (zG _) (.int .i64 0) (.slice A0 n0 c0) (.slice A1 n1 c1) (.int .i64 Y.1.end_));obtain ⟨t0,t1,t2,t3⟩:=gm.cells (h:=0) dA;have tf:=gI dA));have S1:=hmk _ b5)
       | fail)
     ·go_wp2_with fail;go_meet
      case rel=>(go_light;exact ⟨w5.heap.size,A0,n0,c0,A1,n1,c1,rfl,rfl,heap_alloc_new _ _,hI0.below ((Below.refl _ _).alloc (zG _) _),hI1.below ((Below.refl _ _).alloc (zG _) _),ww,b5.size,λh0 ad' e h9=>Nat.lt_irrefl _ (h9 ▸ hI0.nM h0 e),λh0 ad' e h9=>Nat.lt_irrefl _ (h9 ▸ hI1.nM h0 e),hf0,hf1,hk0,hk1⟩)
     ·have BD:=World.size_alloc wd (.cells #[.int .i64 0,.slice none 0 0,.slice none 0 0,.int .i64 0] 80);have hne0:∀ ad':Addr,A0=some ad'->ad'.block ≠ wd.heap.size:=λad' e h9=>by
       have h8:=hf0 ad' e;rw [h9] at h8;have h8:(wd.alloc (.cells #[.int .i64 0,.slice none 0 0,.slice none 0 0,.int .i64 0] 80)).heap.size<=wd.heap.size:=h8;omega
      have hne1:∀ ad':Addr,A1=some ad'->ad'.block ≠ wd.heap.size:=λad' e h9=>by
       have h8:=hf1 ad' e;rw [h9] at h8;have h8:(wd.alloc (.cells #[.int .i64 0,.slice none 0 0,.slice none 0 0,.int .i64 0] 80)).heap.size<=wd.heap.size:=h8;omega
      have rO:gm ((((w5.setCell ⟨wd.heap.size,0,none⟩ (.int .i64 0)).setCell ⟨wd.heap.size,1,none⟩ (.slice A0 n0 c0)).setCell ⟨wd.heap.size,2,none⟩ (.slice A1 n1 c1)).setCell ⟨wd.heap.size,3,none⟩ (.int .i64 Y.1.end_)) wd.heap.size 0 (.slice A0 n0 c0) (.slice A1 n1 c1) Y.1.end_:=bg (bg (bg (bg dA 0 _) 1 _) 2 _) 3 _;have b9:=jM b5 (zG _) (.int .i64 0) (.slice A0 n0 c0) (.slice A1 n1 c1) (.int .i64 Y.1.end_);go_wp2_with fail;go_meet
      case rel=>(go_light;exact ⟨wd.heap.size,A0,n0,c0,A1,n1,c1,rfl,rfl,rO,(((hI0.set _ hne0).set _ hne0).set _ hne0).set _ hne0,(((hI1.set _ hne1).set _ hne1).set _ hne1).set _ hne1,b9,zG _,λ_=>hne0,λ_=>hne1,λad' e=>Nat.le_trans ba.size (hf0 ad' e),λad' e=>Nat.le_trans ba.size (hf1 ad' e),hk0,hk1⟩)
    case rest =>
     obtain ⟨g,A0,n0,c0,A1,n1,c1,rfl,rfl,hT,hI0,hI1,hbc,hgd,hn0,hn1,hu0,hu1,hk0,hk1⟩:=hcut;clear S0 qV aW qW hmk hAt qi ba hbd0;cases hb:K.best x.nd x.l s x.r v with
     | none =>
      have he:Y.2=4:=by rw [HY.out,K.Ns aJ.out hb]
      have hd:(Y.2 == 0)=false:=by rw [he];rfl
      have hd2:decide (Y.2=0)=false:=by rw [he];rfl
      clear he hT hI0 hI1 hn0 hn1 hu0 hu1;have hv0:kS wc X k (none:Option K.Tr) (.pointer none):=rfl;rw [<-hb] at hv0;have qR:=zC hv0;clear hv0 hb;go_wp2_with fail;clear hd hd2;obtain ⟨wx,hwx⟩:=zB wc;rw [<-hwx] at qR hbc ⊢;have hbx:=hbc;clear hwx hbc;have hpx:=HP2.out.below hbx;have hKx:vU wx H k m:=az hbx CQ.out;have hgx:=fM HG2.out hbx;have hxd:Below wx.heap.size wx wx.drew:=(Below.refl _ _).drew;obtain ⟨w6,EG,uq,jq⟩:=(hpx.memo.below hxd).store HS.out hk6 hm (v:=.pointer none) (by rw [<-H6.out.eq];exact qR.out.ext (Ext.below hxd));have hx6:=(Ext.below hxd).trans ((hpx.memo.below hxd).ext jq);have S7:(λw':World=>w'.cell? ⟨H,0,none⟩=some (.int .i64 (k:Int))/\w'.cell? ⟨H,1,none⟩=some (.int .i64 (m:Int))/\w'.cell? ⟨b,0,none⟩=some (.int .i64 x.nd)/\w'.cell? ⟨b,1,none⟩=some (.slice x.A x.n x.c)/\w'.cell? ⟨b,2,none⟩=some (.slice (some ad) x.sn x.sc)/\w'.cell? ⟨b,3,none⟩=some (.slice x.B x.m x.d)/\w'.cell? ⟨b,4,none⟩=some (.slice (some ⟨gb,0,none⟩) x.sn x.sn)/\w'.cell? ⟨b,5,none⟩=some (.map (some mb))/\w'.cell? (ad.add (k * 6))=some (.int .i64 s.day)/\w'.cell? ⟨(ad.add (k * 6)).block,(ad.add (k * 6)).off + 1,none⟩=some (.int .i64 s.ag)/\w'.cell? ⟨(ad.add (k * 6)).block,(ad.add (k * 6)).off + 2,none⟩=some (.int .i64 s.start)/\w'.cell? ⟨(ad.add (k * 6)).block,(ad.add (k * 6)).off + 3,none⟩=some (.int .i64 s.end_)/\w'.cell? ⟨(ad.add (k * 6)).block,(ad.add (k * 6)).off + 4,none⟩=some (.int .i64 s.aj)/\w'.cell? ⟨(ad.add (k * 6)).block,(ad.add (k * 6)).off + 5,none⟩=some (.slice s.A s.n s.c)) wx:=pF.mk' hKx hpx.blk HA.out HS.out hpx.cs (Ext.refl _);have x8:(λw':World=>w'.cell? ⟨H,0,none⟩=some (.int .i64 (k:Int))/\w'.cell? ⟨H,1,none⟩=some (.int .i64 (m:Int))/\w'.cell? ⟨b,0,none⟩=some (.int .i64 x.nd)/\w'.cell? ⟨b,1,none⟩=some (.slice x.A x.n x.c)/\w'.cell? ⟨b,2,none⟩=some (.slice (some ad) x.sn x.sc)/\w'.cell? ⟨b,3,none⟩=some (.slice x.B x.m x.d)/\w'.cell? ⟨b,4,none⟩=some (.slice (some ⟨gb,0,none⟩) x.sn x.sn)/\w'.cell? ⟨b,5,none⟩=some (.map (some mb))/\w'.cell? (ad.add (k * 6))=some (.int .i64 s.day)/\w'.cell? ⟨(ad.add (k * 6)).block,(ad.add (k * 6)).off + 1,none⟩=some (.int .i64 s.ag)/\w'.cell? ⟨(ad.add (k * 6)).block,(ad.add (k * 6)).off + 2,none⟩=some (.int .i64 s.start)/\w'.cell? ⟨(ad.add (k * 6)).block,(ad.add (k * 6)).off + 3,none⟩=some (.int .i64 s.end_)/\w'.cell? ⟨(ad.add (k * 6)).block,(ad.add (k * 6)).off + 4,none⟩=some (.int .i64 s.aj)/\w'.cell? ⟨(ad.add (k * 6)).block,(ad.add (k * 6)).off + 5,none⟩=some (.slice s.A s.n s.c)) wx.drew:=pF.mk' hKx hpx.blk HA.out HS.out hpx.cs (Ext.below hxd);have Dq:(λw':World=>w'.cell? ⟨H,0,none⟩=some (.int .i64 (k:Int))/\w'.cell? ⟨H,1,none⟩=some (.int .i64 (m:Int))/\w'.cell? ⟨b,0,none⟩=some (.int .i64 x.nd)/\w'.cell? ⟨b,1,none⟩=some (.slice x.A x.n x.c)/\w'.cell? ⟨b,2,none⟩=some (.slice (some ad) x.sn x.sc)/\w'.cell? ⟨b,3,none⟩=some (.slice x.B x.m x.d)/\w'.cell? ⟨b,4,none⟩=some (.slice (some ⟨gb,0,none⟩) x.sn x.sn)/\w'.cell? ⟨b,5,none⟩=some (.map (some mb))/\w'.cell? (ad.add (k * 6))=some (.int .i64 s.day)/\w'.cell? ⟨(ad.add (k * 6)).block,(ad.add (k * 6)).off + 1,none⟩=some (.int .i64 s.ag)/\w'.cell? ⟨(ad.add (k * 6)).block,(ad.add (k * 6)).off + 2,none⟩=some (.int .i64 s.start)/\w'.cell? ⟨(ad.add (k * 6)).block,(ad.add (k * 6)).off + 3,none⟩=some (.int .i64 s.end_)/\w'.cell? ⟨(ad.add (k * 6)).block,(ad.add (k * 6)).off + 4,none⟩=some (.int .i64 s.aj)/\w'.cell? ⟨(ad.add (k * 6)).block,(ad.add (k * 6)).off + 5,none⟩=some (.slice s.A s.n s.c)) w6:=pF.mk' hKx hpx.blk HA.out HS.out hpx.cs hx6;have LZ:=zC hpx;have Lj:=zC hgx;clear hKx hpx hgx;go_wp2_with fail
      go_region_held3 (λw':World=>w'.cell? ⟨H,0,none⟩=some (.int .i64 (k:Int))/\w'.cell? ⟨H,1,none⟩=some (.int .i64 (m:Int))/\w'.cell? ⟨b,0,none⟩=some (.int .i64 x.nd)/\w'.cell? ⟨b,1,none⟩=some (.slice x.A x.n x.c)/\w'.cell? ⟨b,2,none⟩=some (.slice (some ad) x.sn x.sc)/\w'.cell? ⟨b,3,none⟩=some (.slice x.B x.m x.d)/\w'.cell? ⟨b,4,none⟩=some (.slice (some ⟨gb,0,none⟩) x.sn x.sn)/\w'.cell? ⟨b,5,none⟩=some (.map (some mb))/\w'.cell? (ad.add (k * 6))=some (.int .i64 s.day)/\w'.cell? ⟨(ad.add (k * 6)).block,(ad.add (k * 6)).off + 1,none⟩=some (.int .i64 s.ag)/\w'.cell? ⟨(ad.add (k * 6)).block,(ad.add (k * 6)).off + 2,none⟩=some (.int .i64 s.start)/\w'.cell? ⟨(ad.add (k * 6)).block,(ad.add (k * 6)).off + 3,none⟩=some (.int .i64 s.end_)/\w'.cell? ⟨(ad.add (k * 6)).block,(ad.add (k * 6)).off + 4,none⟩=some (.int .i64 s.aj)/\w'.cell? ⟨(ad.add (k * 6)).block,(ad.add (k * 6)).off + 5,none⟩=some (.slice s.A s.n s.c))
       (first | with_reducible exact Dq | with_reducible exact x8 | with_reducible exact S7 | fail)
       (fail)
      clear S7 x8 Dq EG;go_wp2_with fail;go_ret;exact ⟨⟨_,rfl,qR.out.ext hx6⟩,grow_step (fM Lj.out hxd) jq (.inl rfl),(LZ.out.below hxd).grown jq uq⟩
     | some bt =>
      have he:Y=(bt,0):=by rw [HY.out,K.Ht aJ.out hb]
      clear HY;subst he;obtain ⟨wx,hwx⟩:=zB (wc.setCell ⟨g,0,none⟩ (.int .i64 k));have hbx:Below wd.heap.size wd wx:=by rw [hwx];exact hbc.setCell hgd _
      have hv0:kS wx X k (some bt) (.pointer (some ⟨g,0,none⟩)):=by
       rw [hwx];exact ⟨g,A0,n0,c0,A1,n1,c1,rfl,bg hT 0 _,hI0.set1 _ hn0,hI1.set1 _ hn1,λhg=>MJ.out g hgd hg,λ_ ad e hg=>MJ.out _ (hu0 ad e) hg,λ_ ad e hg=>MJ.out _ (hu1 ad e) hg,hk0,hk1⟩
      have t0:=af hT 0 _ rfl;have tf:=gI hT;rw [<-hb] at hv0;have qR:=zC hv0;clear hv0 hb hT hI0 hI1 hn0 hn1 hu0 hu1;go_upto_region 12 with fail;rw [<-hwx];clear hwx t0 tf hbc;have hpx:=HP2.out.below hbx;have hKx:vU wx H k m:=az hbx CQ.out;have hgx:=fM HG2.out hbx;have hxd:Below wx.heap.size wx wx.drew:=(Below.refl _ _).drew;obtain ⟨w6,EG,uq,jq⟩:=(hpx.memo.below hxd).store HS.out hk6 hm (v:=.pointer (some ⟨g,0,none⟩)) (by rw [<-H6.out.eq];exact qR.out.ext (Ext.below hxd));have hx6:=(Ext.below hxd).trans ((hpx.memo.below hxd).ext jq);have S7:(λw':World=>w'.cell? ⟨H,0,none⟩=some (.int .i64 (k:Int))/\w'.cell? ⟨H,1,none⟩=some (.int .i64 (m:Int))/\w'.cell? ⟨b,0,none⟩=some (.int .i64 x.nd)/\w'.cell? ⟨b,1,none⟩=some (.slice x.A x.n x.c)/\w'.cell? ⟨b,2,none⟩=some (.slice (some ad) x.sn x.sc)/\w'.cell? ⟨b,3,none⟩=some (.slice x.B x.m x.d)/\w'.cell? ⟨b,4,none⟩=some (.slice (some ⟨gb,0,none⟩) x.sn x.sn)/\w'.cell? ⟨b,5,none⟩=some (.map (some mb))/\w'.cell? (ad.add (k * 6))=some (.int .i64 s.day)/\w'.cell? ⟨(ad.add (k * 6)).block,(ad.add (k * 6)).off + 1,none⟩=some (.int .i64 s.ag)/\w'.cell? ⟨(ad.add (k * 6)).block,(ad.add (k * 6)).off + 2,none⟩=some (.int .i64 s.start)/\w'.cell? ⟨(ad.add (k * 6)).block,(ad.add (k * 6)).off + 3,none⟩=some (.int .i64 s.end_)/\w'.cell? ⟨(ad.add (k * 6)).block,(ad.add (k * 6)).off + 4,none⟩=some (.int .i64 s.aj)/\w'.cell? ⟨(ad.add (k * 6)).block,(ad.add (k * 6)).off + 5,none⟩=some (.slice s.A s.n s.c)) wx:=pF.mk' hKx hpx.blk HA.out HS.out hpx.cs (Ext.refl _);have x8:(λw':World=>w'.cell? ⟨H,0,none⟩=some (.int .i64 (k:Int))/\w'.cell? ⟨H,1,none⟩=some (.int .i64 (m:Int))/\w'.cell? ⟨b,0,none⟩=some (.int .i64 x.nd)/\w'.cell? ⟨b,1,none⟩=some (.slice x.A x.n x.c)/\w'.cell? ⟨b,2,none⟩=some (.slice (some ad) x.sn x.sc)/\w'.cell? ⟨b,3,none⟩=some (.slice x.B x.m x.d)/\w'.cell? ⟨b,4,none⟩=some (.slice (some ⟨gb,0,none⟩) x.sn x.sn)/\w'.cell? ⟨b,5,none⟩=some (.map (some mb))/\w'.cell? (ad.add (k * 6))=some (.int .i64 s.day)/\w'.cell? ⟨(ad.add (k * 6)).block,(ad.add (k * 6)).off + 1,none⟩=some (.int .i64 s.ag)/\w'.cell? ⟨(ad.add (k * 6)).block,(ad.add (k * 6)).off + 2,none⟩=some (.int .i64 s.start)/\w'.cell? ⟨(ad.add (k * 6)).block,(ad.add (k * 6)).off + 3,none⟩=some (.int .i64 s.end_)/\w'.cell? ⟨(ad.add (k * 6)).block,(ad.add (k * 6)).off + 4,none⟩=some (.int .i64 s.aj)/\w'.cell? ⟨(ad.add (k * 6)).block,(ad.add (k * 6)).off + 5,none⟩=some (.slice s.A s.n s.c)) wx.drew:=pF.mk' hKx hpx.blk HA.out HS.out hpx.cs (Ext.below hxd);have Dq:(λw':World=>w'.cell? ⟨H,0,none⟩=some (.int .i64 (k:Int))/\w'.cell? ⟨H,1,none⟩=some (.int .i64 (m:Int))/\w'.cell? ⟨b,0,none⟩=some (.int .i64 x.nd)/\w'.cell? ⟨b,1,none⟩=some (.slice x.A x.n x.c)/\w'.cell? ⟨b,2,none⟩=some (.slice (some ad) x.sn x.sc)/\w'.cell? ⟨b,3,none⟩=some (.slice x.B x.m x.d)/\w'.cell? ⟨b,4,none⟩=some (.slice (some ⟨gb,0,none⟩) x.sn x.sn)/\w'.cell? ⟨b,5,none⟩=some (.map (some mb))/\w'.cell? (ad.add (k * 6))=some (.int .i64 s.day)/\w'.cell? ⟨(ad.add (k * 6)).block,(ad.add (k * 6)).off + 1,none⟩=some (.int .i64 s.ag)/\w'.cell? ⟨(ad.add (k * 6)).block,(ad.add (k * 6)).off + 2,none⟩=some (.int .i64 s.start)/\w'.cell? ⟨(ad.add (k * 6)).block,(ad.add (k * 6)).off + 3,none⟩=some (.int .i64 s.end_)/\w'.cell? ⟨(ad.add (k * 6)).block,(ad.add (k * 6)).off + 4,none⟩=some (.int .i64 s.aj)/\w'.cell? ⟨(ad.add (k * 6)).block,(ad.add (k * 6)).off + 5,none⟩=some (.slice s.A s.n s.c)) w6:=pF.mk' hKx hpx.blk HA.out HS.out hpx.cs hx6;have LZ:=zC hpx;have Lj:=zC hgx;clear hKx hpx hgx;go_wp2_with fail
      go_region_held3 (λw':World=>w'.cell? ⟨H,0,none⟩=some (.int .i64 (k:Int))/\w'.cell? ⟨H,1,none⟩=some (.int .i64 (m:Int))/\w'.cell? ⟨b,0,none⟩=some (.int .i64 x.nd)/\w'.cell? ⟨b,1,none⟩=some (.slice x.A x.n x.c)/\w'.cell? ⟨b,2,none⟩=some (.slice (some ad) x.sn x.sc)/\w'.cell? ⟨b,3,none⟩=some (.slice x.B x.m x.d)/\w'.cell? ⟨b,4,none⟩=some (.slice (some ⟨gb,0,none⟩) x.sn x.sn)/\w'.cell? ⟨b,5,none⟩=some (.map (some mb))/\w'.cell? (ad.add (k * 6))=some (.int .i64 s.day)/\w'.cell? ⟨(ad.add (k * 6)).block,(ad.add (k * 6)).off + 1,none⟩=some (.int .i64 s.ag)/\w'.cell? ⟨(ad.add (k * 6)).block,(ad.add (k * 6)).off + 2,none⟩=some (.int .i64 s.start)/\w'.cell? ⟨(ad.add (k * 6)).block,(ad.add (k * 6)).off + 3,none⟩=some (.int .i64 s.end_)/\w'.cell? ⟨(ad.add (k * 6)).block,(ad.add (k * 6)).off + 4,none⟩=some (.int .i64 s.aj)/\w'.cell? ⟨(ad.add (k * 6)).block,(ad.add (k * 6)).off + 5,none⟩=some (.slice s.A s.n s.c))
       (first | with_reducible exact Dq | with_reducible exact x8 | with_reducible exact S7 | fail)
       (fail)
      clear S7 x8 Dq EG;go_wp2_with fail;go_ret;exact ⟨⟨_,rfl,qR.out.ext hx6⟩,grow_step (fM Lj.out hxd) jq (.inl rfl),(LZ.out.below hxd).grown jq uq⟩
   ·have hy2:=hy rfl;clear hy hn;go_wp2_with fail;go_ret;exact ⟨⟨_,rfl,hy2⟩,hg2,hp2⟩
theorem acZ (w0:World) (b mb gb:Nat) (x:Cs) {X:Nat->Prop} (ai:List Sh) (k:Nat) (s:S) (V:Option Addr) (vn vc:Nat) (v:List Int) (w:World) (hp:dQ w0 w b mb gb x X ai) (hX:∀ g,X g->g < w.heap.size) (hs:x.ss[k]? = some s) (hV:Ints w V vn v) (lg:vn<=vc) (hvs:v.Pairwise (· < ·)) (hvb:∀ i ∈ v,0<=i/\i < (x.r.length:Int)) :
  Calls Tryz.prog 68 #[.pointer (some ⟨b,0,none⟩),.int .i64 k,.slice V vn vc] w λe w'=>acE w0 w w' b mb gb x X ai k (K.best x.nd x.l s x.r v) e :=
 (Nr w0 b mb gb x ai k s V vn vc v w ⟨hp.case,hp.bw,hp.hb,hp.hm,hp.hg,hp.blk,hp.sh,hp.len,hp.ints,hp.memo,hp.ok,λg h=>⟨Nat.zero_le _,(hp.away g h).2⟩⟩ hX hs hV lg hvs hvb).mono λ_ _ h=>⟨h.1,h.2.1,⟨h.2.2.case,h.2.2.bw,h.2.2.hb,h.2.2.hm,h.2.2.hg,h.2.2.blk,h.2.2.sh,h.2.2.len,h.2.2.ints,h.2.2.memo,h.2.2.ok,λg e=>⟨(hp.away g e).1,(h.2.2.away g e).2⟩⟩⟩
theorem Vt (A:Option Addr) (n c:Nat) (w:World) (hnc:n<=c) (hA:A=none->n=0/\c=0):Calls Tryz.prog 124 #[.slice A n c] w λe w'=>e=.returned (.slice A n n)/\w=w':=by
 have k0:(0:Int)<=(n:Int):=by omega
 have k1:(n:Int)<=(c:Int):=by omega
 cases A with
 | none =>
  obtain ⟨rfl,rfl⟩:=hA rfl;go_enter Tryz.func124,Tryz.ntmps124;go_wp2_with fail;go_ret;exact ⟨rfl,rfl⟩
 | some ad =>
  go_enter Tryz.func124,Tryz.ntmps124;go_wp2_with fail;go_ret;exact ⟨by simp,rfl⟩
theorem ajt {ops:Array Oper} {o:Oper} {a:Act} {w w2:World} {K:Act->World->Prop} {Q:Exit->Act->World->Prop} {E:Prop} (hgd:o.guard=none) (s x:Operand)
  (ho:o.op=.call { callee:=.builtin .append,args:=#[s,x],argTypes:=#[48,48] })
  {A:Option Addr} {n:Nat} {l:List Int} (hI:Ints w2 A n l) (hA:A=none->n=0) (hs:a.eval s=.slice A n n) (g:Nat) (p:Int) (hx:a.eval x=.slice (some ⟨g,0,none⟩) 1 1)
  (hw:Below w2.heap.size w2 w) (hg:w.heap[g]? = some (.cells #[.int .i64 p] 3 (0,0))) (hn:n<=1000000)
  (h:∀ B c w',Ints w' (some B) (n + 1) (l ++ [p])->n + 1<=c->Below w.heap.size w w'->w.heap.size<=B.block->K (a.put o.dst (.slice (some B) (n + 1) c)) w') :
  if Region.wanted o (yielded ops a.tmps)=true then Oper.wp Tryz.prog o a w K Q else E:=by
 obtain ⟨i0,hi,hz0,hz1,hz2⟩:=info_parts Tryz.info3;have Om:=hI.below hw;refine step_append_grows hgd s x 48 ho 3 i0 (.int .i64 0) 1 8 Tryz.underlying48 hi hz0 hz1 hz2 rfl (by decide) A n n (intCells l) hs (λe=>⟨hA e,hA e⟩) (by rw [hI.1];simp [intCells]) ?_ ⟨g,0,none⟩ 1 1 [.int .i64 p] hx rfl ?_ (λu hu=>by simp at hu;subst hu;rfl) (by omega) (by simp only [maxLen];omega) (by omega) ?_
 ·intro b e j u hu;have hj:j < n:=by rw [hI.1];have:=(zE.1 hu).1;simpa [intCells] using this
  obtain ⟨ad,y,e',hy,cy⟩:=Om.at_ hj;rw [e] at e';injection e' with e';subst e';rw [intCells,List.getElem?_map,hy] at hu;injection hu with hu;rw [<-hu];exact cy
 ·intro j u hu;rw [jy];exact af hg j u (by simpa using hu)
 ·intro v' w' hown hgrow;have hown2:w'.ownsRow w.heap.size 3 1 v' (n + 1) (intCells (l ++ [p])):=by
   rw [BF];exact hown
  have hl:n + 1=(l ++ [p]).length:=by rw [List.length_append,hI.1];rfl
  have hb:Below w.heap.size w w':=⟨hgrow.os,hgrow.tape,hgrow.output,hgrow.size,λk hk=>hgrow.block k hk (λe=>by cases e)⟩;obtain ⟨A',c',e',hI'⟩:=mJ hown2 hl;obtain ⟨-,⟨e,e0⟩ | ⟨g',cap,cur,e,hb',hh,hnc,-⟩⟩:=hown2
  ·omega
  ·rw [e] at e';injection e' with e1 e2 e3;subst e1 e3;rw [e];exact h _ _ w' hI' hnc hb hb'
theorem lY.uK {w:World} {gb:Nat} {ai:List Sh} (h:lY w gb ai) {A:Option Addr} {n:Nat} {l:List Int} (hI:Ints w A n l):0 < n->∀ ad,A=some ad->ad.block ≠ gb:=by
 intro h0 ad e hb;obtain ⟨ad',y,e',-,hc⟩:=hI.at_ h0;rw [e] at e';injection e' with e';subst e';unfold World.cell? at hc;have hb2:(ad.add 0).block=gb:=hb;rw [hb2,h] at hc;by_cases hsp:(ad.add 0).spot.isSome=true
 ·simp [hsp] at hc
 ·simp only [hsp,List.getElem?_toArray,List.getElem?_map] at hc;cases hs:ai[(ad.add 0).off]? with
  | none=>simp [hs] at hc
  | some s=>simp [hs,Sh.val] at hc
theorem kS.abK {w:World} {gb:Nat} {ai:List Sh} (h:lY w gb ai) {X:Nat->Prop} {k:Int} {t:Option K.Tr} {v:Value} (ht:kS w X k t v) (i:Nat) (u:Value):kS (w.setCell ⟨gb,i,none⟩ u) X k t v:=by
 cases t with
 | none=>exact ht
 | some t =>
  obtain ⟨g,A,n,c,A',n',c',h1,h2,h3,h4,h5⟩:=ht;have hne:g ≠ gb:=λe=>by
   subst e;unfold lY at h;unfold gm at h2;rw [h2] at h;injection h with h;injection h with h5 h6;cases h6
  exact ⟨g,A,n,c,A',n',c',h1,(Below.heap_setCell w _ _ g (λe=>hne e)).trans h2,h3.set1 _ (h.uK h3),h4.set1 _ (h.uK h4),h5⟩
theorem dQ.store {w0 w:World} {b mb gb:Nat} {x:Cs} {ai:List Sh} (h:dQ w0 w b mb gb x GM ai) (s:Nat) (u:Sh) (hu:Ints w u.A u.n u.l/\u.n<=u.c):dQ w0 (w.setCell ⟨gb,s,none⟩ u.val) b mb gb x GM (ai.set s u):=by
 have hbne:b ≠ gb:=λe=>by
  have h1:=h.blk;have h2:=h.sh;subst e;unfold vX at h1;unfold lY at h2;rw [h1] at h2;injection h2 with h2;injection h2 with h3 h4;cases h4
 obtain ⟨es,clock,hm,hes⟩:=h.memo;have PR:mb ≠ gb:=λe=>by
  have h2:=h.sh;subst e;unfold lY at h2;rw [hm] at h2;injection h2 with h2;cases h2
 refine ⟨h.case,h.bw.setCell h.hg _,h.hb,h.hm,h.hg,(Below.heap_setCell w _ _ b (λe=>hbne e)).trans h.blk,?_,by rw [List.length_set];exact h.len,λt ht=>?_,⟨es,clock,(Below.heap_setCell w _ _ mb (λe=>PR e)).trans hm,λe he=>?_⟩,h.ok,λg hg=>hg.elim⟩
 ·have:=bg h.sh s u.val;unfold lY;rw [this];simp [List.map_set]
 ·rcases List.mem_or_eq_of_mem_set ht with ht | rfl
  ·exact ⟨(h.ints t ht).1.set1 _ (h.sh.uK (h.ints t ht).1),(h.ints t ht).2⟩
  ·exact ⟨hu.1.set1 _ (h.sh.uK hu.1),hu.2⟩
 ·obtain ⟨k,s',m,g1,g2,g3,g4,g5⟩:=hes e he;exact ⟨k,s',m,g1,g2,g3,g4,g5.abK h.sh _ _⟩
theorem gB.trans {w w1 w2:World} {mb g:Nat} (h:gB w w1 mb g) (h2:gB w1 w2 mb g):gB w w2 mb g :=
 ⟨h2.os.trans h.os,h2.tape.trans h.tape,h2.output.trans h.output,Nat.le_trans h.size h2.size,λk hk a c=>(h2.block k (Nat.lt_of_lt_of_le hk h.size) a c).trans (h.block k hk a c)⟩
theorem gB.refl (w:World) (mb g:Nat):gB w w mb g:=⟨rfl,rfl,rfl,zG _,λ_ _ _ _=>rfl⟩
theorem gB.below {w w1 w2:World} {mb g:Nat} (h:gB w w1 mb g) (h2:Below w1.heap.size w1 w2):gB w w2 mb g :=
 h.trans ⟨h2.os,h2.tape,h2.output,h2.size,λk hk _ _=>h2.block k hk⟩
theorem Ints.adD {w w':World} {A:Option Addr} {n mb gb:Nat} {l:List Int} (h:Ints w A n l) (hb:gB w w' mb gb) (hg:0 < n->∀ ad,A=some ad->ad.block ≠ gb) {es:Array MapEntry} {clock:Nat} (hm:w.heap[mb]? = some (.map es clock)):Ints w' A n l:=by
 refine ⟨h.1,h.2.1,λh0=>?_⟩;obtain ⟨ad,e,hc⟩:=h.2.2 h0;refine ⟨ad,e,λj u hu=>?_⟩;have c:=hc j u hu;have hlt:=cell_lt c;refine (World.cell?_of_block (hb.block _ hlt (λe2=>?_) (by rw [add_block];exact hg h0 ad e))).trans c;unfold World.cell? at c;rw [e2,hm] at c;simp at c
def Grown (ai:List Sh) (i:Nat):Prop:=∀ s ∈ ai,s.l.Pairwise (· < ·)/\(∀ y ∈ s.l,0<=y/\y < (i:Int))/\(s.A=none->s.n=0/\s.c=0)
theorem Grown.give {ai:List Sh} {i:Nat} (h:Grown ai i) {k:Nat} {s:Sh} (hs:ai[k]? = some s) (B:Addr) (n c:Nat):Grown (ai.set k ⟨some B,n,c,s.l ++ [(i:Int)]⟩) (i + 1):=by
 intro t ht;rcases List.mem_or_eq_of_mem_set ht with ht | rfl
 ·exact ⟨(h t ht).1,λy hy=>by have:=(h t ht).2.1 y hy;omega,(h t ht).2.2⟩
 ·obtain ⟨h1,h2,-⟩:=h s (zD hs);refine ⟨List.pairwise_append.2 ⟨h1,List.pairwise_singleton _ _,λa ha b hb=>?_⟩,λy hy=>?_,λe=>(nomatch e)⟩
  ·rw [List.mem_singleton] at hb;have:=h2 a ha;omega
  ·rcases List.mem_append.1 hy with hy | hy
   ·have:=h2 y hy;omega
   ·rw [List.mem_singleton] at hy;omega
def aki (w0 w w':World) (b mb gb:Nat) (x:Cs) (ai:List Sh) (o:Option (List (List Int))) (e:Ending):Prop :=
 (∃ vk,dQ w0 w' b mb gb x GM vk/\((o=none/\e=.returned (.bool false)/\vk=ai)\/∃ fin,o=some fin/\e=.returned (.bool true)/\vk.map Sh.l=fin))/\gB w w' mb gb
theorem abJ {α:Type} {l:List α} {k:Nat} {a:α} (h:l[k]? = some a):l.set k a=l:=by
 apply List.ext_getElem?;intro j;rw [List.getElem?_set];by_cases e:k=j
 ·subst e;rw [if_pos rfl,h,if_pos (zE.1 h).1]
 ·rw [if_neg e]
namespace A
theorem J5 {m s:Nat} (h:s < m):(List.range m).drop s=s :: (List.range m).drop (s + 1):=by
 rw [List.drop_eq_getElem_cons (by rw [List.length_range];exact h),List.getElem_range]
theorem VY {B:Nat->List Int->Bool} {rec:List (List Int)->Option (List (List Int))} {i:Int} {sh:List (List Int)} {m s:Nat} (hs:s < m) (h:B s ((sh[s]?).getD [] ++ [i])=false\/rec (give sh s i)=none) :
  assign.go B rec i sh ((List.range m).drop s)=assign.go B rec i sh ((List.range m).drop (s + 1)):=by
 rw [J5 hs,assign.go];rcases h with h | h
 ·rw [h];rfl
 ·rw [h];split <;> rfl
theorem aeG {B:Nat->List Int->Bool} {rec:List (List Int)->Option (List (List Int))} {i:Int} {sh fin:List (List Int)} {m s:Nat} (hs:s < m) (h:B s ((sh[s]?).getD [] ++ [i])=true) (h2:rec (give sh s i)=some fin) :
  assign.go B rec i sh ((List.range m).drop s)=some fin:=by
 rw [J5 hs,assign.go,if_pos h,h2]
end A
def TV.cells (y:TV):List Value:=[.int .i64 y.sh,.slice y.A y.n y.c,.slice y.A' y.n' y.c',.int .i64 y.t.end_]
def dY (w:World) (A:Option Addr) (n:Nat) (l:List TV):Prop:=aQ TV.cells 4 w A n l/\∀ y ∈ l,Ints w y.A y.n y.t.stops/\Ints w y.A' y.n' y.t.times
theorem dY.below {w w':World} {A:Option Addr} {n:Nat} {l:List TV} (h:dY w A n l) (hb:Below w.heap.size w w'):dY w' A n l:=⟨aQ.below h.1 hb,λs hs=>⟨(h.2 s hs).1.below hb,(h.2 s hs).2.below hb⟩⟩
theorem dY.at_ {w:World} {A:Option Addr} {n k:Nat} {l:List TV} (h:dY w A n l) (hk:k < n) :
  ∃ ad y,A=some ad/\l[k]? = some y/\(Ints w y.A y.n y.t.stops/\Ints w y.A' y.n' y.t.times)/\w.cell? (ad.add (k * 4))=some (.int .i64 y.sh)/\w.cell? ⟨(ad.add (k * 4)).block,(ad.add (k * 4)).off + 1,none⟩=some (.slice y.A y.n y.c) /\
   w.cell? ⟨(ad.add (k * 4)).block,(ad.add (k * 4)).off + 2,none⟩=some (.slice y.A' y.n' y.c')/\w.cell? ⟨(ad.add (k * 4)).block,(ad.add (k * 4)).off + 3,none⟩=some (.int .i64 y.t.end_):=by
 obtain ⟨ad,s,hA,hl,hc⟩:=aQ.get (f:=TV.cells) (s:=4) (λ_=>rfl) h.1 hk;refine ⟨ad,s,hA,hl,h.2 s (zD hl),hc 0 _ (by omega) rfl,?_,?_,?_⟩ <;> rw [<-lZ _ _ _ (by omega)]
 ·exact hc 1 _ (by omega) rfl
 ·exact hc 2 _ (by omega) rfl
 ·exact hc 3 _ (by omega) rfl
theorem Tryz.info80:(Tryz.prog.info? 80).map (λi=>(i.zero,i.size,i.bytes))=some (some (.agg #[.int .i64 0,.slice none 0 0,.slice none 0 0,.int .i64 0]),4,64):=by kernel_rfl
theorem Na {ops:Array Oper} {rest:List Oper} {o:Oper} {a:Act} {Q:Exit->Act->World->Prop} {w:World} (hgd:o.guard=none) (s x:Operand)
  (ho:o.op=.call { callee:=.builtin .append,args:=#[s,x],argTypes:=#[27,27] })
  (base:Nat) (v:Value) (n:Nat) (l:List TV) (hs:a.eval s=v) (hown:w.ownsRow base 80 4 v n (l.flatMap TV.cells)) (g:Nat) (y:TV) (hx:a.eval x=.slice (some ⟨g,0,none⟩) 1 1)
  (hg:w.heap[g]? = some (.cells #[.int .i64 y.sh,.slice y.A y.n y.c,.slice y.A' y.n' y.c',.int .i64 y.t.end_] 80 (0,0))) (hn:n<=1000000) (hbase:base<=w.heap.size)
  (h:∀ v' w',w'.ownsRow base 80 4 v' (n + 1) ((l ++ [y]).flatMap TV.cells)->w.grownBy w' v.ownBlock->(v'.ownBlock=v.ownBlock\/v'.ownBlock=some w.heap.size)->wpList Tryz.prog ops Q rest (a.put o.dst v') w') :
  wpList Tryz.prog ops Q (o :: rest) a w:=by
 obtain ⟨i0,hi,hz0,hz1,hz2⟩:=info_parts Tryz.info80;refine wpList_append_own_at w hgd s x 27 ho base 80 i0 (.agg #[.int .i64 0,.slice none 0 0,.slice none 0 0,.int .i64 0]) 4 64 Tryz.underlying27 hi hz0 hz1 hz2 rfl (by decide) v n (l.flatMap TV.cells) hs hown ⟨g,0,none⟩ 1 1 y.cells hx rfl ?_ ?_ ?_ ?_ hbase ?_
 ·intro j u hu;rw [jy];exact af hg j u (by simpa [TV.cells] using hu)
 ·intro u hu;simp [TV.cells] at hu;rcases hu with rfl | rfl | rfl | rfl <;> rfl
 ·simp only [maxLen];omega
 ·omega
 ·intro v' w' h2 h3 _ h5;exact h v' w' (by rw [List.flatMap_append];simpa using h2) h3 h5
theorem Ints.grow {w w':World} {A:Option Addr} {n:Nat} {l:List Int} {r:Option Nat} (h:Ints w A n l) (hg:w.grownBy w' r) (hne:0 < n->∀ ad,A=some ad->some ad.block ≠ r):Ints w' A n l:=by
 refine ⟨h.1,h.2.1,λh0=>?_⟩;obtain ⟨ad,e,hc⟩:=h.2.2 h0;refine ⟨ad,e,λj u hu=>?_⟩;have c:=hc j u hu;exact (World.cell?_of_block (hg.block _ (cell_lt c) (by rw [add_block];exact hne h0 ad e))).trans c
theorem dQ.turn {w0 w:World} {b mb gb:Nat} {x:Cs} {X Y:Nat->Prop} {ai:List Sh} (h:dQ w0 w b mb gb x X ai) (hY:∀ g,Y g->X g\/w.heap.size<=g):dQ w0 w b mb gb x Y ai:=by
 refine ⟨h.case,h.bw,h.hb,h.hm,h.hg,h.blk,h.sh,h.len,h.ints,h.memo.more λg hg hy=>(hY g hy).resolve_right (by omega),h.ok,λg hy=>?_⟩;rcases hY g hy with hx | hs
 ·exact h.away g hx
 ·have h1:=lt_of_block h.blk;have h2:=lt_of_block h.sh;obtain ⟨es,clock,hm,-⟩:=h.memo;have h3:=(Array.getElem?_eq_some_iff.1 hm).1;have h4:=h.bw.size;refine ⟨by omega,by omega,by omega,by omega,λs hs' h0 ad e=>?_⟩;have:=(h.ints s hs').1.nM h0 e;omega
theorem dQ.own {w0 w w':World} {b mb gb:Nat} {x:Cs} {X:Nat->Prop} {ai:List Sh} {r:Option Nat} (h:dQ w0 w b mb gb x X ai) (hg:w.grownBy w' r) (hr:∀ g,r=some g->X g):dQ w0 w' b mb gb x X ai:=by
 have hb:∀ g,g < w.heap.size->(∀ k,r=some k->g ≠ k)->w'.heap[g]? = w.heap[g]?:=λg hl hne=>hg.block g hl (λe=>hne g e.symm rfl);obtain ⟨es,clock,hm,hes⟩:=h.memo;refine ⟨h.case,a_ h.bw hg (λg e=>(h.away g (hr g e)).1),h.hb,h.hm,h.hg,(hb b (lt_of_block h.blk) λk e=>((h.away k (hr k e)).2.1).symm).trans h.blk,(hb gb (lt_of_block h.sh) λk e=>((h.away k (hr k e)).2.2.2.1).symm).trans h.sh,h.len,λs hs=>⟨(h.ints s hs).1.grow hg λh0 ad e e2=>(h.away _ (hr _ e2.symm)).2.2.2.2 s hs h0 ad e rfl,(h.ints s hs).2⟩,
  ⟨es,clock,(hb mb (Array.getElem?_eq_some_iff.1 hm).1 λk e=>((h.away k (hr k e)).2.2.1).symm).trans hm,λe he=>?_⟩,h.ok,h.away⟩
 obtain ⟨k,s,m,h1,h2,h3,h4,h5⟩:=hes e he;refine ⟨k,s,m,h1,h2,h3,h4,?_⟩;cases hbt:K.best x.nd x.l s x.r (K.part (K.iota 6) m) with
 | none=>rw [hbt] at h5;exact h5
 | some t =>
  rw [hbt] at h5;obtain ⟨g,A,n,c,A',n',c',g1,g2,g3,g4,g5,g6,g7⟩:=h5;exact ⟨g,A,n,c,A',n',c',g1,eX hg g2 (λe=>g5 (hr g e.symm)),g3.grow hg (λh0 ad e e2=>g6 h0 ad e (hr _ e2.symm)),g4.grow hg (λh0 ad e e2=>g7.1 h0 ad e (hr _ e2.symm)),g5,g6,g7⟩
namespace K
def sJ (nd:Int) (l:List Ro) (ss:List S) (r:List Q) (d:List Nat) (s:Nat):Option (Nat × Tr):=if (A.share d s 0).isEmpty then none else match ss[s]? with
  | none=>none
  | some x=>(best nd l x r (A.share d s 0)).map λt=>(s,t)
theorem ajP (nd:Int) (l:List Ro) (ss:List S) (r:List Q) (d:List Nat):nR nd l ss r d=(List.range ss.length).filterMap (sJ nd l ss r d):=rfl
theorem ab1 {α:Type} {f:Nat->Option α} {s:Nat} (h:f s=none):(List.range (s + 1)).filterMap f=(List.range s).filterMap f:=by
 rw [List.range_succ,List.filterMap_append,List.filterMap_cons,h];simp
theorem ab2 {α:Type} {f:Nat->Option α} {s:Nat} {a:α} (h:f s=some a):(List.range (s + 1)).filterMap f=(List.range s).filterMap f ++ [a]:=by
 rw [List.range_succ,List.filterMap_append,List.filterMap_cons,h];simp
end K
def TV.pr (y:TV):Int × K.Tr:=(y.sh,y.t)
def Ui (w w':World) (p:List (Nat × K.Tr) × Int) (e:Ending):Prop :=
 (∃ A n c l,e=.returned (.tuple #[.slice A n c,.int .i64 p.2])/\dY w' A n l/\n<=c/\l.map TV.pr=p.1.map (λt=>((t.1:Int),t.2)))/\Below w.heap.size w w'
theorem akZ {w w':World} {p:List (Nat × K.Tr) × Int} {er:Int} (h:p=([],er)) (hb:Below w.heap.size w w'):Ui w w' p (.returned (.tuple #[.slice none 0 0,.int .i64 er])):=by
 subst h;exact ⟨⟨none,0,0,[],rfl,⟨⟨rfl,rfl,λh=>absurd h (by omega)⟩,λy h=>by cases h⟩,zG _,rfl⟩,hb⟩
theorem eP.store {w0 w:World} {b mb gb:Nat} {x:Cs} {X:Nat->Prop} {ai:List Sh} (h:eP w0 w b mb gb x X ai) (s:Nat) (u:Sh) (hu:Ints w u.A u.n u.l/\u.n<=u.c) (hu2:∀ g,X g->0 < u.n->∀ ad,u.A=some ad->ad.block ≠ g):eP w0 (w.setCell ⟨gb,s,none⟩ u.val) b mb gb x X (ai.set s u):=by
 have hbne:b ≠ gb:=λe=>by
  have h1:=h.blk;have h2:=h.sh;subst e;unfold vX at h1;unfold lY at h2;rw [h1] at h2;injection h2 with h2;injection h2 with h3 h4;cases h4
 obtain ⟨es,clock,hm,hes⟩:=h.memo;have PR:mb ≠ gb:=λe=>by
  have h2:=h.sh;subst e;unfold lY at h2;rw [hm] at h2;injection h2 with h2;cases h2
 refine ⟨h.case,h.bw.setCell h.hg _,h.hb,h.hm,h.hg,(Below.heap_setCell w _ _ b (λe=>hbne e)).trans h.blk,?_,by rw [List.length_set];exact h.len,λt ht=>?_,⟨es,clock,(Below.heap_setCell w _ _ mb (λe=>PR e)).trans hm,λe he=>?_⟩,h.ok,λg hg=>?_⟩
 ·have:=bg h.sh s u.val;unfold lY;rw [this];simp [List.map_set]
 ·rcases List.mem_or_eq_of_mem_set ht with ht | rfl
  ·exact ⟨(h.ints t ht).1.set1 _ (h.sh.uK (h.ints t ht).1),(h.ints t ht).2⟩
  ·exact ⟨hu.1.set1 _ (h.sh.uK hu.1),hu.2⟩
 ·obtain ⟨k,s',m,g1,g2,g3,g4,g5⟩:=hes e he;exact ⟨k,s',m,g1,g2,g3,g4,g5.abK h.sh _ _⟩
 ·obtain ⟨a1,a2,a3,a4,a5⟩:=h.away g hg;refine ⟨a1,a2,a3,a4,λt ht=>?_⟩;rcases List.mem_or_eq_of_mem_set ht with ht | rfl
  ·exact a5 t ht
  ·exact hu2 g hg
def acw (w0 w w':World) (b mb gb:Nat) (x:Cs) (X:Nat->Prop) (ai:List Sh) (o:Option (List (List Int))) (e:Ending):Prop :=
 (∃ vk,eP w0 w' b mb gb x X vk/\((o=none/\e=.returned (.bool false)/\vk=ai)\/∃ fin,o=some fin/\e=.returned (.bool true)/\vk.map Sh.l=fin))/\gB w w' mb gb
theorem acS (w0:World) (b mb gb:Nat) (x:Cs) {X:Nat->Prop} (wX:Nat) (hX:∀ g,X g->g < wX):∀ (k i:Nat) (ai:List Sh) (w:World),i + k=x.m->wX<=w.heap.size->eP w0 w b mb gb x X ai->Grown ai i ->
  Calls Tryz.prog 67 #[.pointer (some ⟨b,0,none⟩),.int .i64 i] w λe w'=>acw w0 w w' b mb gb x X ai (A.assign (K.bM x.nd x.l x.ss x.r) x.sn k i (ai.map Sh.l)) e:=by
 intro k;induction k with
 | zero =>
  intro i ai w hi Ju hp hgr;have c0:=af hp.blk 0 _ rfl;have c2:=af hp.blk 2 _ rfl;have c3:=af hp.blk 3 _ rfl;have hd:decide ((i:Int)=(x.m:Int))=true:=by simp;omega
  have hd2:((i:Int) == (x.m:Int))=true:=by simp;omega
  have hd3:decide (i=x.m)=true:=by simp;omega
  have hd4:(i == x.m)=true:=by simp;omega
  have hdi:i=x.m:=by omega
  go_enter Tryz.func67,Tryz.ntmps67;go_wp2_with fail;go_ret;exact ⟨⟨ai,hp,.inr ⟨_,rfl,rfl,rfl⟩⟩,gB.refl _ _ _⟩
 | succ k ih =>
  intro i ai w hi Ju hp hgr;have HP:=zC hp;have Gp:=zC hgr;have c0:=af hp.blk 0 _ rfl;have c2:=af hp.blk 2 _ rfl;have c3:=af hp.blk 3 _ rfl;have hd:decide ((i:Int)=(x.m:Int))=false:=by simp;omega
  have hd2:((i:Int) == (x.m:Int))=false:=by simp;omega
  have hd3:decide (i=x.m)=false:=by simp;omega
  have hd4:(i == x.m)=false:=by simp;omega
  obtain ⟨h1,h2,h3,h4,h5⟩:=K.gQ hp.ok;have j_:x.m<=6:=by rw [hp.case.aN.1];exact h5
  have qC:x.sn<=4:=by rw [hp.case.shifts.1.1];exact h2
  have bf:=zC hp.case.shifts.1.1;have aO:=zC hp.case.aN.1;have HLEN:=zC hp.len;clear h1 h2 h3 h4 h5 hp hgr;go_enter Tryz.func67,Tryz.ntmps67;go_wp2_with fail;clear c0 c2 c3 hd hd2 hd3 hd4;obtain ⟨o,ho⟩:=zB (A.assign (K.bM x.nd x.l x.ss x.r) x.sn (k + 1) i (ai.map Sh.l));have HO:=zC ho;clear ho;go_loopw [19] (λv19 wr=>∃ s:Nat,v19=.int .i64 s/\s<=x.sn/\eP w0 wr b mb gb x X ai/\gB w wr mb gb/\Hid (o=A.assign.go (K.bM x.nd x.l x.ss x.r) (A.assign (K.bM x.nd x.l x.ss x.r) x.sn k (i + 1)) i (ai.map Sh.l) ((List.range x.sn).drop s))) (λv19 _=>x.sn - (intOf v19).toNat)
  case atStart=>exact ⟨0,rfl,Nat.zero_le _,HP.out,gB.refl _ _ _,HO.out⟩
  case round =>
   obtain ⟨s,rfl,hs,hpr,hbr,hor⟩:=hrel;by_cases hlt:s < x.sn
   ·obtain ⟨sh,hsh⟩:∃ sh,ai[s]? = some sh:=⟨_,zF (by rw [HLEN.out];exact hlt)⟩;have hget:((ai.map Sh.l)[s]?).getD [] = sh.l:=by rw [List.getElem?_map,hsh];rfl
    obtain ⟨hI,hnc⟩:=hpr.ints sh (zD hsh);obtain ⟨hso,hbd,hAn⟩:=Gp.out sh (zD hsh);have kH:sh.n<=6:=by
     obtain ⟨m6,h6⟩:=K.FU hso λy hy=>by have:=hbd y hy;omega
     rw [hI.1];exact h6.len
    have LG:=zC hnc;have c4:=af hpr.blk 4 _ rfl;have c5:wr.cell? ⟨gb,s,none⟩=some (.slice sh.A sh.n sh.c):=af hpr.sh s _ (by simp [hsh,Sh.val]);have mV:=zC hsh;have HSO:=zC hso;have sU:=zC hbd;have Gn:=zC hget;have kD:=zC hpr;have HBR:=zC hbr;have HXW:=zC (show ∀ g,X g->g < wr.heap.size from λg hg=>Nat.lt_of_lt_of_le (hX g hg) (Nat.le_trans Ju hbr.size));have k0:(0:Int)<=(s:Int):=by omega
    have k1:(s:Int) < (x.sn:Int):=by omega
    clear hpr hbr hso hbd hget hsh;go_upto_region 7 with fail;have HI:=zC hI;have hA0:sh.A=none->sh.n=0:=λe=>(hAn e).1;have wU:Below wr.heap.size wr (wr.alloc (.cells #[.int .i64 (i:Int)] 3)).drew:=((Below.refl _ _).alloc (zG _) _).drew;have jo:Below wr.heap.size wr wr.drew:=(Below.refl _ _).drew;have S0:(λw':World=>w'.cell? ⟨b,4,none⟩=some (.slice (some ⟨gb,0,none⟩) x.sn x.sn)) wr:=c4;have aW:(λw':World=>w'.cell? ⟨b,4,none⟩=some (.slice (some ⟨gb,0,none⟩) x.sn x.sn)) wr.drew:=af (kD.out.below jo).blk 4 _ rfl;have Uo:(λw':World=>w'.cell? ⟨b,4,none⟩=some (.slice (some ⟨gb,0,none⟩) x.sn x.sn)) (wr.alloc (.cells #[.int .i64 (i:Int)] 3)).drew:=af (kD.out.below wU).blk 4 _ rfl;have Es:sh.n<=1000000:=by omega
    have hkc:=LG.out;clear hI hnc c4 c5;go_cut [38] from 29 to 39 (λv38 wa=>∃ B c9,v38=.slice (some B) (sh.n + 1) c9/\sh.n + 1<=c9/\eP w0 wa b mb gb x X (ai.set s ⟨some B,sh.n + 1,c9,sh.l ++ [(i:Int)]⟩)/\Ints wa (some B) (sh.n + 1) (sh.l ++ [(i:Int)])/\Ints wa sh.A sh.n sh.l/\gB w wa mb gb)
    case first =>
     go_region_held3 (λw':World=>w'.cell? ⟨b,4,none⟩=some (.slice (some ⟨gb,0,none⟩) x.sn x.sn))
      (first | with_reducible exact xY | with_reducible exact S9 | with_reducible exact Uo | with_reducible exact aW | with_reducible exact S0 | fail)
      (first
       | (go_at_call 124;refine (Vt sh.A sh.n sh.c _ hkc hAn).mono ?_;rintro e w9 ⟨rfl,rfl⟩)
       | (refine ajt rfl (.tmp 35) (.tmp 37) rfl HI.out hA0 rfl wr.heap.size (i:Int) rfl wU (heap_alloc_new wr _) Es ?_;intro B c9 w9 iP oN bU kF;have Bl:=kD.out.below (bel wU bU);have S9:w9.cell? ⟨b,4,none⟩=some (.slice (some ⟨gb,0,none⟩) x.sn x.sn):=af Bl.blk 4 _ rfl;have c59:w9.cell? ⟨gb,s,none⟩=some (.slice sh.A sh.n sh.c):=af Bl.sh s _ (by simp [mV.out,Sh.val]);have f59:=gI Bl.sh;have Yp:=Bl.store s ⟨some B,sh.n + 1,c9,sh.l ++ [(i:Int)]⟩ ⟨iP,oN⟩ (λg hg _ ad e e2=>by have h1:=HXW.out g hg;have h2:=wU.size;(injection e with e);rw [e] at kF;omega);have xY:(w9.setCell ⟨gb,s,none⟩ (.slice (some B) (sh.n + 1) c9)).cell? ⟨b,4,none⟩=some (.slice (some ⟨gb,0,none⟩) x.sn x.sn):=af Yp.blk 4 _ rfl)
       | fail)
     all_goals
      have hr1:=iP.set1 (i:=s) (.slice (some B) (sh.n + 1) c9) (Bl.sh.uK iP);have hr2:=(HI.out.below (bel wU bU)).set1 (i:=s) (.slice (some B) (sh.n + 1) c9) (Bl.sh.uK (HI.out.below (bel wU bU)));have hr3:=(HBR.out.below (bel wU bU)).set s (.slice (some B) (sh.n + 1) c9);go_wp2_with fail;go_meet;exact ⟨B,c9,rfl,oN,Yp,hr1,hr2,hr3⟩
    case rest =>
     obtain ⟨B,c9,rfl,oN,hpa,Oj,yC,hba⟩:=hcut;obtain ⟨u,hu⟩:∃ u:Sh,u=⟨some B,sh.n + 1,c9,sh.l ++ [(i:Int)]⟩:=⟨_,rfl⟩;rw [<-hu] at hpa;obtain ⟨wa,nI⟩:=zB wc;rw [<-nI] at hpa Oj yC hba;have hsl:s < ai.length:=by rw [HLEN.out];exact hlt
     have oh:=zC (show (ai.set s u)[s]? = some ⟨some B,sh.n + 1,c9,sh.l ++ [(i:Int)]⟩ by rw [List.getElem?_set,if_pos rfl,if_pos hsl,hu]);have hgu:Grown (ai.set s u) (i + 1):=by rw [hu];exact Gp.out.give mV.out B _ _
     obtain ⟨Ik,VX,-⟩:=hgu _ (zD oh.out);obtain ⟨sS,hsS⟩:∃ sS,x.ss[s]? = some sS:=⟨_,zF (by rw [<-bf.out];exact hlt)⟩;have Td:=zC (show ∀ y ∈ sh.l ++ [(i:Int)],0<=y/\y < (x.r.length:Int) from λy hy=>by have:=VX y hy;have:=aO.out;omega);have HGS:=zC (show (sh.l ++ [(i:Int)]).Pairwise (· < ·) from Ik);have CB:=Nr w0 b mb gb x (ai.set s u) s sS (some B) (sh.n + 1) c9 (sh.l ++ [(i:Int)]) wa hpa (λg hg=>Nat.lt_of_lt_of_le (hX g hg) (Nat.le_trans Ju hba.size)) hsS Oj oN Ik Td.out;have hfe:K.bM x.nd x.l x.ss x.r s (((ai.map Sh.l)[s]?).getD [] ++ [(i:Int)])=(K.best x.nd x.l sS x.r (sh.l ++ [(i:Int)])).isSome:=by
      rw [Gn.out,Bool.eq_iff_iff,K.DI hpa.ok Ik Td.out,Option.isSome_iff_exists];exact ⟨λ⟨s2,t,e1,e2⟩=>by rw [hsS] at e1;injection e1 with e1;subst e1;exact ⟨t,e2⟩,λ⟨t,e2⟩=>⟨sS,t,hsS,e2⟩⟩
     have hgv:(ai.set s u).map Sh.l=A.give (ai.map Sh.l) s i:=by
      unfold A.give;rw [Gn.out,List.map_set,hu]
     obtain ⟨T,hT⟩:=zB (K.best x.nd x.l sS x.r (sh.l ++ [(i:Int)]));rw [<-hT] at CB hfe;have xI:=zC hfe;have HGV:=zC hgv;have HGU:=zC hgu;have c4a:=af hpa.blk 4 _ rfl;have c5a:wa.cell? ⟨gb,s,none⟩=some (.slice (some B) (sh.n + 1) c9):=af hpa.sh s _ (by rw [List.getElem?_toArray,List.getElem?_map,oh.out];rfl);have LW:=zC hor.out;rw [<-nI];clear hgu Ik VX hfe hgv hT hsS nI S0 aW Uo wU jo hu hor hA0 hkc hAn;go_wp2_with fail;refine CB.mono ?_;rintro e wb ⟨⟨u',rfl,hTA⟩,hgb,hpb⟩;have IB:=yC.ext (hpa.memo.ext hgb);have hbb:=hba.trans (gB.of hgb);clear CB c4a c5a hpa Oj hba yC;cases T with
     | none =>
      obtain rfl:u'=.pointer none:=hTA;have aV:=zC (show o=A.assign.go (K.bM x.nd x.l x.ss x.r) (A.assign (K.bM x.nd x.l x.ss x.r) x.sn k (i + 1)) i (ai.map Sh.l) ((List.range x.sn).drop (s + 1)) from LW.out.trans (A.VY hlt (.inl xI.out)));have c4c:=af hpb.blk 4 _ rfl;have c5c:wb.cell? ⟨gb,s,none⟩=some (.slice (some B) (sh.n + 1) c9):=af hpb.sh s _ (by rw [List.getElem?_toArray,List.getElem?_map,oh.out];rfl);have f5c:=gI hpb.sh;have kJ:=hpb.store s sh ⟨IB,LG.out⟩ (λg hg h0 ad e=>(kD.out.away g hg).2.2.2.2 sh (zD mV.out) h0 ad e);rw [List.set_set,abJ mV.out] at kJ;have hbd:=hbb.set s sh.val;go_wp2_with fail;go_roundw
      case rel=>(go_light;exact ⟨s + 1,by go_num,hlt,kJ,hbd,aV.out⟩)
      case measure=>(go_light;simp [intOf];omega)
     | some bt =>
      obtain ⟨g,A8,n8,c8,A7,n7,c7,rfl,-⟩:=hTA;obtain ⟨ii,hii⟩:=zB (i + 1);have kw:IntKind.i64.wrap ((i:Int) + 1)=(ii:Int):=by rw [IntWalk.i64_in _ (by omega)];omega
      have CI:=ih ii (ai.set s u) wb (by omega) (Nat.le_trans Ju hbb.size) hpb (by rw [hii];exact HGU.out);rw [HGV.out] at CI;obtain ⟨O,hO⟩:=zB (A.assign (K.bM x.nd x.l x.ss x.r) x.sn k ii (A.give (ai.map Sh.l) s i));rw [<-hO] at CI;have Gv:=zC (show A.assign (K.bM x.nd x.l x.ss x.r) x.sn k (i + 1) (A.give (ai.map Sh.l) s i)=O by rw [hO,hii];simp);obtain ⟨es,clock,hmw,-⟩:=hpb.memo;have hgn:=hpb.sh.uK IB;clear hO hii;go_wp2_with fail;refine CI.mono ?_;rintro e wc ⟨⟨vk,hpc,hres⟩,hbc⟩;have hIc:=IB.adD hbc hgn hmw;have hbw:=hbb.trans hbc;clear CI hmw hgn hpb IB hbb hbc kw;rcases hres with ⟨h1,rfl,rfl⟩ | ⟨fin,h1,rfl,h2⟩
      ·have aV:=zC (show o=A.assign.go (K.bM x.nd x.l x.ss x.r) (A.assign (K.bM x.nd x.l x.ss x.r) x.sn k (i + 1)) i (ai.map Sh.l) ((List.range x.sn).drop (s + 1)) from LW.out.trans (A.VY hlt (.inr (Gv.out.trans h1))));clear h1;have c4c:=af hpc.blk 4 _ rfl;have c5c:wc.cell? ⟨gb,s,none⟩=some (.slice (some B) (sh.n + 1) c9):=af hpc.sh s _ (by rw [List.getElem?_toArray,List.getElem?_map,oh.out];rfl);have f5c:=gI hpc.sh;have kJ:=hpc.store s sh ⟨hIc,LG.out⟩ (λg hg h0 ad e=>(kD.out.away g hg).2.2.2.2 sh (zD mV.out) h0 ad e);rw [List.set_set,abJ mV.out] at kJ;have hbd:=hbw.set s sh.val;go_wp2_with fail;go_roundw
       case rel=>(go_light;exact ⟨s + 1,by go_num,hlt,kJ,hbd,aV.out⟩)
       case measure=>(go_light;simp [intOf];omega)
      ·have Lh:=zC (show o=some fin from LW.out.trans (A.aeG hlt xI.out (Gv.out.trans h1)));clear h1;go_wp2_with fail;go_ret;exact ⟨⟨vk,hpc,.inr ⟨fin,HO.out ▸ Lh.out,rfl,h2⟩⟩,hbw⟩
   ·have Lh:=zC (show o=none by rw [hor.out,List.drop_eq_nil_of_le (by rw [List.length_range];omega)];rfl);clear hor;go_wp2_with fail;go_ret;exact ⟨⟨ai,hpr,.inl ⟨HO.out ▸ Lh.out,rfl,rfl⟩⟩,hbr⟩
theorem eP.turn {w0 w:World} {b mb gb:Nat} {x:Cs} {X Y:Nat->Prop} {ai:List Sh} (h:eP w0 w b mb gb x X ai) (hY:∀ g,Y g->X g\/w.heap.size<=g):eP w0 w b mb gb x Y ai:=by
 refine ⟨h.case,h.bw,h.hb,h.hm,h.hg,h.blk,h.sh,h.len,h.ints,h.memo.more λg hg hy=>(hY g hy).resolve_right (by omega),h.ok,λg hy=>?_⟩;rcases hY g hy with hx | hs
 ·exact h.away g hx
 ·have h1:=lt_of_block h.blk;have h2:=lt_of_block h.sh;obtain ⟨es,clock,hm,-⟩:=h.memo;have h3:=(Array.getElem?_eq_some_iff.1 hm).1;have h4:=h.bw.size;refine ⟨by omega,by omega,by omega,by omega,λs hs' h0 ad e=>?_⟩;have:=(h.ints s hs').1.nM h0 e;omega
theorem eP.own {w0 w w':World} {b mb gb:Nat} {x:Cs} {X:Nat->Prop} {ai:List Sh} {r:Option Nat} (h:eP w0 w b mb gb x X ai) (hg:w.grownBy w' r) (hr:∀ g,r=some g->X g) (hr2:∀ g,r=some g->w0.heap.size<=g):eP w0 w' b mb gb x X ai:=by
 have hb:∀ g,g < w.heap.size->(∀ k,r=some k->g ≠ k)->w'.heap[g]? = w.heap[g]?:=λg hl hne=>hg.block g hl (λe=>hne g e.symm rfl);obtain ⟨es,clock,hm,hes⟩:=h.memo;refine ⟨h.case,a_ h.bw hg hr2,h.hb,h.hm,h.hg,(hb b (lt_of_block h.blk) λk e=>((h.away k (hr k e)).2.1).symm).trans h.blk,(hb gb (lt_of_block h.sh) λk e=>((h.away k (hr k e)).2.2.2.1).symm).trans h.sh,h.len,λs hs=>⟨(h.ints s hs).1.grow hg λh0 ad e e2=>(h.away _ (hr _ e2.symm)).2.2.2.2 s hs h0 ad e rfl,(h.ints s hs).2⟩,
  ⟨es,clock,(hb mb (Array.getElem?_eq_some_iff.1 hm).1 λk e=>((h.away k (hr k e)).2.2.1).symm).trans hm,λe he=>?_⟩,h.ok,h.away⟩
 obtain ⟨k,s,m,h1,h2,h3,h4,h5⟩:=hes e he;refine ⟨k,s,m,h1,h2,h3,h4,?_⟩;cases hbt:K.best x.nd x.l s x.r (K.part (K.iota 6) m) with
 | none=>rw [hbt] at h5;exact h5
 | some t =>
  rw [hbt] at h5;obtain ⟨g,A,n,c,A',n',c',g1,g2,g3,g4,g5,g6,g7⟩:=h5;exact ⟨g,A,n,c,A',n',c',g1,eX hg g2 (λe=>g5 (hr g e.symm)),g3.grow hg (λh0 ad e e2=>g6 h0 ad e (hr _ e2.symm)),g4.grow hg (λh0 ad e e2=>g7.1 h0 ad e (hr _ e2.symm)),g5,g6,g7⟩
def Uj (w w':World) (p:List (Nat × K.Tr) × Int) (e:Ending):Prop :=
 (∃ A n c l,e=.returned (.tuple #[.slice A n c,.int .i64 p.2])/\dY w' A n l/\n<=c/\l.map TV.pr=p.1.map (λt=>((t.1:Int),t.2))/\(∀ ad,A=some ad->w.heap.size<=ad.block)/\NT w l)/\Below w.heap.size w w'
theorem aa2 {w w':World} {p:List (Nat × K.Tr) × Int} {er:Int} (h:p=([],er)) (hb:Below w.heap.size w w'):Uj w w' p (.returned (.tuple #[.slice none 0 0,.int .i64 er])):=by
 subst h;exact ⟨⟨none,0,0,[],rfl,⟨⟨rfl,rfl,λh=>absurd h (by omega)⟩,λy h=>by cases h⟩,zG _,rfl,(λad e=>(by cases e)),(λy h=>(by cases h))⟩,hb⟩
theorem aaw (x:Cs) (w:World) (hx:bF w x) :
  Calls Tryz.prog 20 #[.agg #[.int .i64 x.nd,.slice x.A x.n x.c],.slice x.SA x.sn x.sc,.slice x.B x.m x.d] w λe w'=>Uj w w' (K.plan x.nd x.l x.ss x.r) e:=by
 have hN:=Net.new w x.nd x.A x.n x.c;have p0:=hN.c0;have p1:=hN.c1;have b0:Below w.heap.size w (w.alloc (.cells #[.int .i64 x.nd,.slice x.A x.n x.c] 24)):=(Below.refl _ _).alloc (zG _) _;go_enter Tryz.func20,Tryz.ntmps20;go_wp2_with fail;refine (Ny x _ (hx.below b0)).mono ?_;obtain ⟨ce,hce⟩:=zB (K.aH x.nd x.l x.ss x.r);rw [<-hce];rintro e w1 ⟨rfl,b1⟩;have hN1:=hN.below b1;have hb1:=bel b0 b1;clear p0 p1 b0 b1 hN;by_cases hz:ce=0;rotate_left
 ·have HX:=zC (show K.plan x.nd x.l x.ss x.r=([],ce) by rw [hce] at hz ⊢;exact K.JY hz);have hd:(ce != 0)=true:=by simp [bne,hz]
  clear hce;go_wp2_with fail;go_ret2
  exact aa2 HX.out hb1
 subst hz;have aJ:=zC hce.symm;clear hce;have p0:=hN1.c0;have p1:=hN1.c1;go_wp2_with fail;refine (ajr x _ (hx.below hb1) aJ.out).mono ?_;rintro e w2 ⟨b,mb,gb,rfl,hp0⟩;have Qj:=hb1.size;have hp2:=hp0 (Old w) (λg hg=>Nat.lt_of_lt_of_le hg Qj);have Bv:=hp2.bw.size;have akE:=hp2.hm;clear hp0;have j_:x.m<=6:=by rw [hx.aN.1];exact (K.gQ aJ.out).2.2.2.2
 have qC:x.sn<=4:=by rw [hx.shifts.1.1];exact (K.gQ aJ.out).2.1
 have bf:=zC hx.shifts.1.1;have aO:=zC hx.aN.1;clear p0 p1 hN1;go_wp2_with fail;have CA:=acS w1 b mb gb x w.heap.size (λg (hg:Old w g)=>hg) x.m 0 _ w2 (by omega) (Nat.le_trans Qj Bv) hp2 (λs hs=>by rw [List.eq_of_mem_replicate hs];exact ⟨List.Pairwise.nil,λy hy=>(by cases hy),λ_=>⟨rfl,rfl⟩⟩);have Xv:=A.acT (B:=K.bM x.nd x.l x.ss x.r) K.aed.mono x.sn x.m;rw [show (List.replicate x.sn (⟨none,0,0,[]⟩:Sh)).map Sh.l=List.replicate x.sn [] by rw [List.map_replicate],show ((0:Nat):Int)=0 from rfl,Xv] at CA;refine CA.mono ?_;rintro e w3 ⟨⟨ai,hp3,hres⟩,-⟩;clear Xv hp2 CA;cases hf:A.first (K.bM x.nd x.l x.ss x.r) x.sn x.m with
 | none =>
  rw [hf] at hres;rcases hres with ⟨-,rfl,-⟩ | ⟨fin,h,-⟩
  rotate_left
  ·cases h
  have HX:=zC (show K.plan x.nd x.l x.ss x.r=([],4) by unfold K.plan;rw [if_pos aJ.out,<-bf.out,<-aO.out,hf]);have hb3:=bel hb1 hp3.bw;clear hf;go_wp2_with fail;go_ret2
  exact aa2 HX.out hb3
 | some d =>
  rw [hf] at hres;rcases hres with ⟨h,-⟩ | ⟨fin,h,rfl,hfin⟩
  ·cases h
  injection h with h;have Gw:=zC (show K.plan x.nd x.l x.ss x.r=(K.nR x.nd x.l x.ss x.r d,0) by unfold K.plan;rw [if_pos aJ.out,<-bf.out,<-aO.out,hf]);have SY:=zC (K.first_some hf);have ace:=zC (hfin.trans h.symm);have c4:w3.cell? ⟨b,4,none⟩=some (.slice (some ⟨gb,0,none⟩) x.sn x.sn):=af hp3.blk 4 _ rfl;obtain ⟨hd1,-,hd3⟩:=SY.out;have hw1:=hp3.bw.size;have hwb:=lt_of_block hp3.blk;obtain ⟨base,hbase⟩:=zB w3.heap.size;have XI:w1.heap.size<=base:=by rw [hbase];exact hw1
  have XH:w.heap.size<=base:=Nat.le_trans Qj XI;clear hf h hfin SY;have HD1:=zC hd1;have HD3:=zC hd3;clear hd1 hd3;go_wp2_with fail;clear c4;go_loopw [10,32] (λv10 v32 wr=>∃ (s:Nat) (ts:List TV),v32=.int .i64 s/\s<=x.sn/\ts.length<=s/\wr.ownsRow base 80 4 v10 ts.length (ts.flatMap TV.cells)/\eP w1 wr b mb gb x (λg=>v10.ownBlock=some g\/Old w g) ai/\NT w ts/\base<=wr.heap.size/\(∀ y ∈ ts,(Ints wr y.A y.n y.t.stops/\Ints wr y.A' y.n' y.t.times)/\(0 < y.n->∀ ad,y.A=some ad->v10.ownBlock ≠ some ad.block)/\(0 < y.n'->∀ ad,y.A'=some ad->v10.ownBlock ≠ some ad.block))/\Hid (ts.map TV.pr=((List.range s).filterMap (K.sJ x.nd x.l x.ss x.r d)).map λt=>((t.1:Int),t.2))) (λ_ v32 _=>x.sn - (intOf v32).toNat)
  case atStart=>exact ⟨0,[],rfl,Nat.zero_le _,Nat.zero_le _,World.ownsRow_nil _ _ _ _,hp3.turn (λg h=>h.elim (λe=>(by cases e)) .inl),λy hy=>(by cases hy),by rw [hbase];exact zG _,λy hy=>(by cases hy),rfl⟩
  case round =>
   clear hp3 hwb hw1;obtain ⟨s,ts,rfl,hs,htl,hown,hpr,OZ,hbs,hts,hpl⟩:=hrel;by_cases hlt:s < x.sn
   ·obtain ⟨sh,hsh⟩:∃ sh,ai[s]? = some sh:=⟨_,zF (by rw [hpr.len];exact hlt)⟩;have Qa:sh.l=A.share d s 0:=by
     have h9:=congrArg (λl=>l[s]?) ace.out;simp only [List.getElem?_map,List.getElem?_range hlt,hsh,Option.map_some] at h9;injection h9
    obtain ⟨hI,hnc⟩:=hpr.ints sh (zD hsh);have c5:wr.cell? ⟨gb,s,none⟩=some (.slice sh.A sh.n sh.c):=af hpr.sh s _ (by rw [List.getElem?_toArray,List.getElem?_map,hsh];rfl);have k0:(0:Int)<=(s:Int):=by omega
    have k1:(s:Int) < (x.sn:Int):=by omega
    have kD:=zC hpr;have HI:=zC hI;have Ae:=zC Qa;have mV:=zC hsh;have iT:=zC hts;clear hpr hI hsh hts;by_cases hn0:sh.n=0
    ·have hd1:decide ((0:Int) < (sh.n:Int))=false:=by rw [hn0];rfl
     have hd2:decide (0 < sh.n)=false:=by rw [hn0];rfl
     have HE:=zC (show K.sJ x.nd x.l x.ss x.r d s=none by
      unfold K.sJ;have:A.share d s 0=[]:=by rw [<-Ae.out];exact List.length_eq_zero_iff.1 (by rw [<-HI.out.1];exact hn0)
      rw [this];rfl)
     have aV:=zC (hpl.out.trans (congrArg _ (K.ab1 HE.out).symm));clear Qa hpl;go_wp2_with fail;go_roundw
     case rel=>(go_light;exact ⟨s + 1,ts,by go_num,hlt,by omega,hown,kD.out,OZ,hbs,iT.out,aV.out⟩)
     case measure=>(go_light;simp [intOf];omega)
    ·have hn1:0 < sh.n:=by omega
     have hd1:decide ((0:Int) < (sh.n:Int))=true:=by simp;omega
     have hd2:decide (0 < sh.n)=true:=by simp;omega
     have hne:A.share d s 0 ≠ []:=λe=>by
      rw [<-Ae.out] at e;have:=HI.out.1;rw [e] at this;exact hn0 this
     obtain ⟨sS,hsS⟩:∃ sS,x.ss[s]? = some sS:=⟨_,zF (by rw [<-bf.out];exact hlt)⟩;have hsorted:sh.l.Pairwise (· < ·):=by rw [Ae.out];exact A.o_ _ _ _
     have hbound:∀ i ∈ sh.l,0<=i/\i < (x.r.length:Int):=λi hi=>by
      rw [Ae.out] at hi;have:=A.vg hi;rw [HD1.out] at this;have:=aO.out;omega
     have hfe:=(HD3.out s hlt).resolve_left hne;rw [<-Ae.out] at hfe;obtain ⟨s2,t,hs2,hbt⟩:=(K.DI aJ.out hsorted hbound).1 hfe;rw [hsS] at hs2;injection hs2 with hs2;subst hs2;have CB:=Nr w1 b mb gb x ai s sS sh.A sh.n sh.c sh.l wr kD.out (λg hg=>hg.elim (λhg=>(hown.lt g hg).2) (λhg=>Nat.lt_of_lt_of_le hg (Nat.le_trans XH hbs))) hsS HI.out hnc hsorted hbound;rw [hbt] at CB;have HE:=zC (show K.sJ x.nd x.l x.ss x.r d s=some (s,t) by
      unfold K.sJ;rw [List.isEmpty_eq_false_iff.2 hne,hsS];rw [Ae.out] at hbt;show (K.best x.nd x.l sS x.r (A.share d s 0)).map _=_;rw [hbt];rfl)
     have aV:=zC (show (ts.map TV.pr) ++ [((s:Int),t)] = ((List.range (s + 1)).filterMap (K.sJ x.nd x.l x.ss x.r d)).map λt=>((t.1:Int),t.2) by rw [K.ab2 HE.out,List.map_append,<-hpl.out];rfl);clear hne hsorted hbound hfe hbt hpl hsS Qa;go_wp2_with fail;refine CB.mono ?_;rintro e wb ⟨⟨u,rfl,g,A,n,c,A',n',c',rfl,hT,hI1,hI2,hx1,hx2,hx3,hk0,hk1⟩,hgb,hpb⟩;have Yn:=hown.kept hgb (.inr λe=>(hpb.away mb (.inl e)).2.2.1 rfl);have YL:0 < n->∀ ad,A=some ad->u10.ownBlock ≠ some ad.block:=λh0 ad e e2=>hx2 h0 ad e (.inl e2);have YM:0 < n'->∀ ad,A'=some ad->u10.ownBlock ≠ some ad.block:=λh0 ad e e2=>hx3 h0 ad e (.inl e2);have aeW:NT w (ts ++ [(⟨s,A,n,c,A',n',c',t⟩:TV)]):=OZ.snoc (λh0 ad e=>Nat.le_of_not_lt λe2=>hx2 h0 ad e (.inr e2)) (λh0 ad e=>Nat.le_of_not_lt λe2=>hx3 h0 ad e (.inr e2)) ⟨hk0,hk1⟩;have hxb:=kD.out.memo.ext hgb;obtain ⟨t0,t1,t2,t3⟩:=hT.cells;obtain ⟨wl,hwl⟩:=zB (wb.alloc (.cells #[.int .i64 s,.slice A n c,.slice A' n' c',.int .i64 t.end_] 80));have bl:=zA hwl;have Oq:wl.heap[wb.heap.size]? = some (.cells #[.int .i64 s,.slice A n c,.slice A' n' c',.int .i64 t.end_] 80 (0,0)):=by rw [hwl];exact heap_alloc_new _ _
     have Jo:=own_below Yn bl;have hpl:=hpb.below bl;have hbl:base<=wl.heap.size:=Nat.le_trans hbs (Nat.le_trans hgb.size bl.size);have hln:ts.length<=1000000:=by omega
     have ack:=zC (show ((ts ++ [(⟨s,A,n,c,A',n',c',t⟩:TV)]).map TV.pr)=((List.range (s + 1)).filterMap (K.sJ x.nd x.l x.ss x.r d)).map λt=>((t.1:Int),t.2) by rw [<-aV.out,List.map_append];rfl);have YG:∀ y ∈ ts,(Ints wl y.A y.n y.t.stops/\Ints wl y.A' y.n' y.t.times)/\(0 < y.n->∀ ad,y.A=some ad->u10.ownBlock ≠ some ad.block)/\(0 < y.n'->∀ ad,y.A'=some ad->u10.ownBlock ≠ some ad.block):=λy hy=>⟨⟨((iT.out y hy).1.1.ext hxb).below bl,((iT.out y hy).1.2.ext hxb).below bl⟩,(iT.out y hy).2⟩;have TW:=zC YG;have Wq:=hI1.below bl;have Wu:=hI2.below bl;have Yo:=Jo;rw [hwl] at Jo Oq;clear CB hown kD iT hxb hgb Yn hpb YG hT;go_wp2_with (at_builtin;refine Na rfl (.tmp 40) (.tmp 47) rfl base u10 ts.length ts rfl Jo wb.heap.size ⟨s,A,n,c,A',n',c',t⟩ rfl Oq hln (by rw [<-hwl];exact hbl) ?_;rw [<-hwl];intro v' w6 hown6 hgrow6 gW);have y8:eP w1 w6 b mb gb x (λg=>v'.ownBlock=some g\/Old w g) ai:=by
      refine ((hpl.turn (Y:=λg=>(u10.ownBlock=some g\/g=wl.heap.size)\/Old w g) (λg h=>h.elim (λh=>h.elim (λe=>.inl (.inl e)) λe=>.inr (by rw [e];exact zG _)) (λh=>.inl (.inr h)))).own hgrow6 (λg e=>.inl (.inl e)) (λg e=>Nat.le_trans XI (Yo.lt g e).1)).turn λg h=>.inl ?_;rcases h with h | h
      ·refine .inl ?_;rcases gW with e | e
       ·rw [e] at h;exact .inl h
       ·rw [e] at h;injection h with h;exact .inr h.symm
      ·exact .inr h
     have hgo:∀ (B:Option Addr) (k:Nat) (l:List Int),Ints wl B k l->(0 < k->∀ ad,B=some ad->u10.ownBlock ≠ some ad.block)->Ints w6 B k l/\(0 < k->∀ ad,B=some ad->v'.ownBlock ≠ some ad.block):=λB k l hI hne=>⟨hI.grow hgrow6 (λh0 ad e e2=>hne h0 ad e e2.symm),λh0 ad e e2=>by
      rcases gW with e3 | e3
      ·rw [e3] at e2;exact hne h0 ad e e2
      ·rw [e3] at e2;injection e2 with e2;have:=hI.nM h0 e;omega⟩
     have afM:∀ y ∈ ts ++ [(⟨s,A,n,c,A',n',c',t⟩:TV)],(Ints w6 y.A y.n y.t.stops/\Ints w6 y.A' y.n' y.t.times)/\(0 < y.n->∀ ad,y.A=some ad->v'.ownBlock ≠ some ad.block)/\(0 < y.n'->∀ ad,y.A'=some ad->v'.ownBlock ≠ some ad.block):=λy hy=>by
      rcases List.mem_append.1 hy with hy | hy
      ·obtain ⟨⟨g1,g2⟩,g3,g4⟩:=TW.out y hy;obtain ⟨f1,f2⟩:=hgo _ _ _ g1 g3;obtain ⟨f3,f4⟩:=hgo _ _ _ g2 g4;exact ⟨⟨f1,f3⟩,f2,f4⟩
      ·rw [List.mem_singleton] at hy;subst hy;obtain ⟨f1,f2⟩:=hgo _ _ _ Wq YL;obtain ⟨f3,f4⟩:=hgo _ _ _ Wu YM;exact ⟨⟨f1,f3⟩,f2,f4⟩
     have hb6:=Nat.le_trans hbl hgrow6.size;have bJ:(ts ++ [(⟨s,A,n,c,A',n',c',t⟩:TV)]).length=ts.length + 1:=by rw [List.length_append];rfl
     clear hgo hgrow6 gW hwl Jo Yo YL YM Oq Wq Wu hx1 hx2 hx3 TW bl t0 t1 t2 t3;go_roundw
     case rel=>(go_light;exact ⟨s + 1,ts ++ [⟨s,A,n,c,A',n',c',t⟩],by go_num,hlt,by omega,by rw [bJ];exact hown6,y8,aeW,hb6,afM,ack⟩)
     case measure=>(go_light;simp [intOf];omega)
   ·have hse:s=x.ss.length:=by have:=bf.out;omega
    obtain ⟨A9,c9,rfl,jO,Iy⟩:=dh hown;have PU:ts.length<=c9:=by
     obtain ⟨-,⟨e,e0⟩ | ⟨g',cap,cur,e,-,-,h9,-⟩⟩:=hown
     ·rw [e0];exact Nat.zero_le _
     ·injection e with e1 e2 e3;rw [e3];exact h9
    have HX:=zC (show K.plan x.nd x.l x.ss x.r=(_,0) from Gw.out);have MH:=zC (show ts.map TV.pr=(K.plan x.nd x.l x.ss x.r).1.map λt=>((t.1:Int),t.2) by rw [Gw.out,K.ajP,<-hse];exact hpl.out);clear hse hpl;go_wp2_with fail;go_ret2
    refine ⟨⟨A9,ts.length,c9,ts,by rw [HX.out];rfl,⟨⟨rfl,jO⟩,λy hy=>(hts y hy).1⟩,PU,MH.out,λad e=>Nat.le_trans XH (Iy _ (by rw [e];rfl)).1,OZ⟩,bel hb1 hpr.bw⟩
theorem ahV (x:Cs) (w:World) (hx:bF w x) :
  Calls Tryz.prog 20 #[.agg #[.int .i64 x.nd,.slice x.A x.n x.c],.slice x.SA x.sn x.sc,.slice x.B x.m x.d] w λe w'=>Ui w w' (K.plan x.nd x.l x.ss x.r) e :=
 (aaw x w hx).mono λ_ _ ⟨⟨A,n,c,l,h1,h2,h3,h4,_,_⟩,hb⟩=>⟨⟨A,n,c,l,h1,h2,h3,h4⟩,hb⟩
end Go.Proofs.YtippdjmpkafifaaGreat
