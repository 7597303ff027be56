import Derived.Test.YtippdjmpkafifaaGreatCR8
import Derived.Test.YtippdjmpkafifaaGreatCR10
import Derived.Deep.Light
import Derived.Test.YtippdjmpkafifaaGreatCR7
import Derived.Deep.RegionLawGrows
set_option maxRecDepth 100000
set_option maxHeartbeats 64000000
namespace Go.Proofs.YtippdjmpkafifaaGreat
open Go.RowKit
def S.cells (s:S):List Value:=[.int .i64 s.day,.int .i64 s.ax,.int .i64 s.start,.int .i64 s.end_,.int .i64 s.aU,.slice s.A s.n s.c]
def Shifts (w:World) (A:aj) (n:Nat) (l:List S):Prop:=aX S.cells 6 w A n l/\∀ s ∈ l,Ints w s.A s.n s.l
theorem Shifts.below {w w':World} {A:aj} {n:Nat} {l:List S} (h:Shifts w A n l) (hb:af w w'):Shifts w' A n l:=⟨aX.below h.1 hb,λs hs=>(h.2 s hs).below hb⟩
theorem Shifts.ext {w w':World} {A:aj} {n:Nat} {l:List S} (h:Shifts w A n l) (hb:Ext w w'):Shifts w' A n l:=⟨aX.ext h.1 hb,λs hs=>(h.2 s hs).ext hb⟩
theorem Shifts.at_ {w:World} {A:aj} {n k:Nat} {l:List S} (h:Shifts w A n l) (hk:k < n) :
  ∃ ad s,A=some ad/\l[k]? = some s/\Ints w s.A s.n s.l/\w.cell? (ad.add (k * 6))=some (.int .i64 s.day)/\w.cell? ⟨(ad.add (k * 6)).block,(ad.add (k * 6)).off + 1,none⟩=some (.int .i64 s.ax) /\
   w.cell? ⟨(ad.add (k * 6)).block,(ad.add (k * 6)).off + 2,none⟩=some (.int .i64 s.start)/\w.cell? ⟨(ad.add (k * 6)).block,(ad.add (k * 6)).off + 3,none⟩=some (.int .i64 s.end_) /\
   w.cell? ⟨(ad.add (k * 6)).block,(ad.add (k * 6)).off + 4,none⟩=some (.int .i64 s.aU)/\w.cell? ⟨(ad.add (k * 6)).block,(ad.add (k * 6)).off + 5,none⟩=some (.slice s.A s.n s.c):=by
 obtain ⟨ad,s,hA,hl,hc⟩:=aX.get (f:=S.cells) (s:=6) (λ_=>rfl) h.1 hk;refine ⟨ad,s,hA,hl,h.2 s (zD hl),hc 0 _ (by omega) rfl,?_,?_,?_,?_,?_⟩ <;> rw [<-pO _ _ _ (by omega)]
 ·exact hc 1 _ (by omega) rfl
 ·exact hc 2 _ (by omega) rfl
 ·exact hc 3 _ (by omega) rfl
 ·exact hc 4 _ (by omega) rfl
 ·exact hc 5 _ (by omega) rfl
structure Cs where
 nd:Int
 A:Option Addr
 n:Nat
 c:Nat
 l:List Ro
 SA:Option Addr
 sn:Nat
 sc:Nat
 ss:List S
 B:Option Addr
 m:Nat
 d:Nat
 r:List Q
abbrev qZ (w w1:World) (x:Cs):World->Prop:=λw':World=>af w1 w'/\aJ w' w.heap.size 0 x.nd/\bT w' w.heap.size 1 x.A x.n x.c
abbrev pJ (b H gb mb k m:Nat) (x:Cs) (ad:Addr) (s:S):World->Prop:=λw':World=>aJ w' H 0 (k:Int)/\aJ w' H 1 (m:Int)/\aJ w' b 0 x.nd/\bT w' b 1 x.A x.n x.c/\bT w' b 2 (some ad) x.sn x.sc/\bT w' b 3 x.B x.m x.d/\bT w' b 4 (some ⟨gb,0,none⟩) x.sn x.sn/\Gm w' b 5 (.map (some mb))/\w'.cell? (ad.add (k * 6))=some (.int .i64 s.day)/\aJ w' ((ad.add (k * 6)).block) ((ad.add (k * 6)).off + 1) s.ax/\aJ w' ((ad.add (k * 6)).block) ((ad.add (k * 6)).off + 2) s.start/\aJ w' ((ad.add (k * 6)).block) ((ad.add (k * 6)).off + 3) s.end_/\aJ w' ((ad.add (k * 6)).block) ((ad.add (k * 6)).off + 4) s.aU/\bT w' ((ad.add (k * 6)).block) ((ad.add (k * 6)).off + 5) s.A s.n s.c
abbrev lm (x:Cs):Value:=.agg #[.int .i64 x.nd,.slice x.A x.n x.c,.slice x.SA x.sn x.sc,.slice x.B x.m x.d]
structure eu (w:World) (x:Cs):Prop where
 net:gq w x.A x.n x.l
 shifts:Shifts w x.SA x.sn x.ss
 bf:dm w x.B x.m x.r
 b1:x.n<=1000000000
 b2:∀ s ∈ x.ss,s.n<=1000000000
 b3:x.sn<=1000000000
 b4:x.m<=1000000000
 b5:∀ q ∈ x.r,q.n<=1000000000
theorem eu.below {w w':World} {x:Cs} (h:eu w x) (hb:af w w'):eu w' x:=⟨aX.below h.net hb,h.shifts.below hb,h.bf.below hb,h.b1,h.b2,h.b3,h.b4,h.b5⟩
theorem eu.ext {w w':World} {x:Cs} (h:eu w x) (hb:Ext w w'):eu w' x:=⟨aX.ext h.net hb,h.shifts.ext hb,h.bf.ext hb,h.b1,h.b2,h.b3,h.b4,h.b5⟩
def Cs.one (x:Cs) (s:S):C:=⟨x.nd,x.A,x.n,x.c,x.l,s,x.B,x.m,x.d,x.r⟩
theorem eu.case {w:World} {x:Cs} (h:eu w x) {s:S} (hs:s ∈ x.ss):At w (x.one s):=⟨h.net,h.shifts.2 s hs,h.bf,h.b1,h.b2 s hs,h.b4,h.b5⟩
namespace K
def lF (nd:Int) (ss:List S) (r:List Q):Int:=if ss.any (kG nd) || r.any (jR nd) then 1 else 0
theorem ajT {nd:Int} {l:List Ro} {ss:List S} {r:List Q} (h:aZ nd l ≠ 0):bK nd l ss r=1:=by simp [bK,h]
theorem ajS {nd:Int} {l:List Ro} {ss:List S} {r:List Q} (h:¬ ss.length<=4):bK nd l ss r=1:=by simp [bK];intros;omega
theorem ajR {nd:Int} {l:List Ro} {ss:List S} {r:List Q} (h:aZ nd l=0) (h2:ss.length<=4):bK nd l ss r=if lF nd ss r=1 then 1 else if 6 < r.length then 6 else 0:=by
 unfold bK lF;rw [h,zH h2];cases ss.any (kG nd) <;> cases r.any (jR nd) <;> simp
theorem ajP {nd:Int} {ss:List S} {r:List Q} {k:Nat} {s:S} (h:ss[k]? = some s):lF nd (ss.drop k) r=if kG nd s=true then 1 else lF nd (ss.drop (k + 1)) r:=by
 obtain ⟨hk,e⟩:=zE.1 h;unfold lF;rw [jE hk,e,List.any_cons];cases kG nd s <;> simp
theorem ajO {nd:Int} {r:List Q} {k:Nat} {q:Q} (h:r[k]? = some q):lF nd [] (r.drop k)=if jR nd q=true then 1 else lF nd [] (r.drop (k + 1)):=by
 obtain ⟨hk,e⟩:=zE.1 h;unfold lF;rw [jE hk,e,List.any_cons];cases jR nd q <;> simp
theorem ajN (nd:Int):lF nd [] [] = 0:=rfl
end K
theorem Qz (x:Cs) (w:World) (hx:eu w x) :
  ay 65 #[.agg #[.int .i64 x.nd,.slice x.A x.n x.c],.slice x.SA x.sn x.sc,.slice x.B x.m x.d] w (og w (K.bK x.nd x.l x.ss x.r)):=by
 have b0:af w (w.alloc (.cells #[.int .i64 x.nd,.slice x.A x.n x.c] 24)):=ai.alloc (zG _) _;have hN:=Net.new w x.nd x.A x.n x.c;have ahY:=hx.b3;have hmb:=hx.b4;have p0:=hN.c0;have p1:=hN.c1;go_enter Tryz.func65,Tryz.ntmps65;go_wp2_with fail;refine (xN x.nd x.A x.n x.c x.l _ (aX.below hx.net b0) hx.b1).mono ?_;obtain ⟨ne,hne⟩:=zB (K.aZ x.nd x.l);rw [<-hne];rintro e w1 ⟨rfl,b1⟩;have hb1:=bel b0 b1;have hN:=hN.below b1;clear p0 p1 b0 b1;by_cases hz:ne=0;rotate_left
 ·have HX:=zC (K.ajT (ss:=x.ss) (r:=x.r) (by rw [<-hne];exact hz));have hd:(ne != 0)=true:=by simp [bne,hz]
  clear hne;go_wp2_with fail;go_ret;exact ⟨by rw [HX.out];rfl,hb1⟩
 have Px:=zC (hne.symm.trans hz);subst hz;clear hne;by_cases hm:x.ss.length<=4;rotate_left
 ·have HX:=zC (K.ajS (nd:=x.nd) (l:=x.l) (r:=x.r) hm);have hd:decide ((4:Int) < (x.sn:Int))=true:=by rw [hx.shifts.1.1];simp;omega
  have hdn:decide (4 < x.sn)=true:=by rw [hx.shifts.1.1];simp;omega
  go_wp2_with fail;go_ret;exact ⟨by rw [HX.out];rfl,hb1⟩
 have eF:=zC hx.shifts.1.1;have aS:=zC hx.bf.1;have hd:decide ((4:Int) < (x.sn:Int))=false:=by rw [eF.out];simp;omega
 have hdn:decide (4 < x.sn)=false:=by rw [eF.out];simp;omega
 have HP:=zC (K.ajR (r:=x.r) Px.out hm);clear hm;go_wp2_with fail;clear hd hdn;go_loopw [21] (λv21 wr=>∃ k:Nat,v21=.int .i64 k/\k<=x.sn/\Hid (K.lF x.nd x.ss x.r=K.lF x.nd (x.ss.drop k) x.r)/\af w1 wr) (λv21 _=>x.sn - (intOf v21).toNat)
 case atStart=>exact ⟨0,rfl,aW _,rfl,ai⟩
 case round =>
  obtain ⟨k,rfl,hk,hpc,hbr⟩:=hrel;by_cases hlt:k < x.sn
  ·obtain ⟨ad,s,hA,hs,hI,c0,c1,c2,c3,c4,c5⟩:=(hx.shifts.below (bel hb1 hbr)).at_ hlt;have hsm:=zD hs;have HA:=zC hA;have HST:=zC (show K.lF x.nd x.ss x.r=_ from hpc.out.trans (K.ajP hs));have hsn:=hx.b2 s hsm;obtain ⟨w2,hw2⟩:=zB (wr.alloc (.cells #[.int .i64 s.day,.int .i64 s.ax,.int .i64 s.start,.int .i64 s.end_,.int .i64 s.aU,.slice s.A s.n s.c] 63));obtain ⟨g,hg⟩:=zB wr.heap.size;have b2:=aH hw2;have hS2:bI w2 g s:=by rw [hw2,hg];exact bI.new _ _
   have kJ:=(hN.below hbr).below b2;have hI2:=hI.below b2;have hb2:=bel hbr b2;obtain ⟨k0,k1⟩:=zJ (a:=k) (b:=x.sn) (by omega);clear hs hsm hpc hI;rw [hA];go_upto_region 6 with fail;rw [<-hw2,<-hg];clear hw2 hg c0 c1 c2 c3 c4 c5 hA hbr b2;obtain ⟨s0,s1,s2,s3,s4,s5⟩:=hS2.cells;go_wp2_with fail;refine (check_any s w2 hI2 hsn).mono ?_;obtain ⟨ce,hce⟩:=zB (T.check s);rw [<-hce];rintro e w3 ⟨rfl,b3⟩;have hS3:=hS2.below b3;have hN3:=kJ.below b3;have hb3:=bel hb2 b3;clear s0 s1 s2 s3 s4 s5 hS2 kJ hI2 hb2 b3;by_cases hz:ce=0
   ·have hcb:(ce != 0)=false:=by simp [bne,hz]
    by_cases hdp:s.ax < x.nd
    ·have hge:decide (x.nd<=s.ax)=false:=by simp;omega
     have bH:=zC (show K.lF x.nd x.ss x.r=K.lF x.nd (x.ss.drop (k + 1)) x.r by rw [HST.out,if_neg];simp [K.kG,<-hce,hz];omega);obtain ⟨s0,s1,s2,s3,s4,s5⟩:=hS3.cells;have p0:=hN3.c0;clear hce hz hdp;go_wp2_with fail;go_roundw
     case rel=>exact ⟨k + 1,by go_num,hlt,bH.out,hb3⟩
     case measure=>simp [intOf];omega
    ·have hge:decide (x.nd<=s.ax)=true:=by simp;omega
     have HX:=zC (show K.bK x.nd x.l x.ss x.r=1 by rw [HP.out,HST.out,if_pos (show K.kG x.nd s=true by simp [K.kG];omega)];rfl);obtain ⟨s0,s1,s2,s3,s4,s5⟩:=hS3.cells;have p0:=hN3.c0;clear hce hz hdp;go_wp2_with fail;go_ret;exact ⟨by rw [HX.out];rfl,bel hb1 hb3⟩
   ·have hcb:(ce != 0)=true:=by simp [bne,hz]
    have HX:=zC (show K.bK x.nd x.l x.ss x.r=1 by rw [HP.out,HST.out,if_pos (show K.kG x.nd s=true by simp [K.kG,<-hce,hz])];rfl);clear hce hz;go_wp2_with fail;go_ret;exact ⟨by rw [HX.out];rfl,bel hb1 hb3⟩
  ·have JO:=zC (show K.lF x.nd x.ss x.r=K.lF x.nd [] x.r by rw [hpc.out,dF (by rw [<-eF.out];omega)]);clear hpc;have hN1:=hN.below hbr;have hb1:=bel hb1 hbr;obtain ⟨w4,hw4⟩:=zB wr;rw [<-hw4] at hN1 hb1 ⊢;clear hN hbr hw4;go_wp2_with fail;go_loopw [38] (λv38 wq=>∃ k:Nat,v38=.int .i64 k/\k<=x.m/\Hid (K.lF x.nd x.ss x.r=K.lF x.nd [] (x.r.drop k))/\af w4 wq) (λv38 _=>x.m - (intOf v38).toNat)
   case atStart=>exact ⟨0,rfl,aW _,JO.out,ai⟩
   case round =>
    clear JO;obtain ⟨k,rfl,hk,hpc,hbr⟩:=hrel;by_cases hlt:k < x.m
    ·obtain ⟨ad,q,hA,hq,hI,c0,c1,c2,c3,c4,c5,c6⟩:=(hx.bf.below (bel hb1 hbr)).at_ hlt;have HA:=zC hA;have HST:=zC (show K.lF x.nd x.ss x.r=_ from hpc.out.trans (K.ajO hq));have hsn:=hx.b5 q (zD hq);obtain ⟨w2,hw2⟩:=zB (wr.alloc (.cells #[.int .i64 q.node,.int .i64 q.room,.int .i64 q.a_,.int .i64 q.service,.int .i64 q.aI,.int .i64 q.aP,.slice q.A q.n q.c] 47));obtain ⟨g,hg⟩:=zB wr.heap.size;have b2:=aH hw2;have hS2:dV w2 g q:=by rw [hw2,hg];exact aA _ _
     have kJ:=(hN1.below hbr).below b2;have hI2:=hI.below b2;have hb2:=bel hbr b2;obtain ⟨k0,k1⟩:=zJ (a:=k) (b:=x.m) (by omega);clear hq hpc hI;rw [hA];go_upto_region 12 with fail;rw [<-hw2,<-hg];clear hw2 hg c0 c1 c2 c3 c4 c5 c6 hA hbr b2;obtain ⟨s0,s1,s2,s3,s4,s5,s6⟩:=zX7 hS2;go_wp2_with fail;refine (OG q w2 hI2 hsn).mono ?_;obtain ⟨ce,hce⟩:=zB (T.right q);rw [<-hce];rintro e w3 ⟨rfl,b3⟩;have hS3:=au b3 hS2;have hN3:=kJ.below b3;have hb3:=bel hb2 b3;clear s0 s1 s2 s3 s4 s5 s6 hS2 kJ hI2 hb2 b3;cases ce
     ·have HX:=zC (show K.bK x.nd x.l x.ss x.r=1 by rw [HP.out,HST.out,if_pos (show K.jR x.nd q=true by simp [K.jR,<-hce])];rfl);clear hce;go_wp2_with fail;go_ret;exact ⟨by rw [HX.out];rfl,bel hb1 hb3⟩
     ·have s0:=ah hS3 0 _ rfl;have p0:=hN3.c0;by_cases hdp:q.node < x.nd
      ·have hge:decide (x.nd<=q.node)=false:=by simp;omega
       have bH:=zC (show K.lF x.nd x.ss x.r=K.lF x.nd [] (x.r.drop (k + 1)) by rw [HST.out,if_neg];simp [K.jR,<-hce];omega);clear hce hdp;go_wp2_with fail;go_roundw
       case rel=>exact ⟨k + 1,by go_num,hlt,bH.out,hb3⟩
       case measure=>simp [intOf];omega
      ·have hge:decide (x.nd<=q.node)=true:=by simp;omega
       have HX:=zC (show K.bK x.nd x.l x.ss x.r=1 by rw [HP.out,HST.out,if_pos (show K.jR x.nd q=true by simp [K.jR];omega)];rfl);clear hce hdp;go_wp2_with fail;go_ret;exact ⟨by rw [HX.out];rfl,bel hb1 hb3⟩
    ·have HE:=zC (show K.bK x.nd x.l x.ss x.r=if 6 < x.m then 6 else 0 by
      rw [HP.out,hpc.out,dF (by rw [<-aS.out];omega),K.ajN,<-aS.out];rfl)
     clear hpc;by_cases h6:6 < x.m
     ·have hd:decide ((6:Int) < (x.m:Int))=true:=by simp;omega
      have hdn:decide (6 < x.m)=true:=zH h6;go_wp2_with fail;go_ret;exact ⟨by rw [HE.out,if_pos h6];rfl,bel hb1 hbr⟩
     ·have hd:decide ((6:Int) < (x.m:Int))=false:=by simp;omega
      have hdn:decide (6 < x.m)=false:=zI h6;go_wp2_with fail;go_ret;exact ⟨by rw [HE.out,if_neg h6];rfl,bel hb1 hbr⟩
section
namespace K
def iota (n:Nat):List Int:=(List.range n).map λ(i:Nat)=>(i:Int)
def num (v:ag):Nat:=v.foldl (λn i=>n + 2 ^ i.toNat) 0
theorem aji (v:ag) (i:Int):num (v ++ [i])=num v + 2 ^ i.toNat:=by simp [num]
theorem Ox:∀ {v w:ag},v.Sublist w->∃ m,m < 2 ^ w.length/\part w m=v
 | _,_,.slnil=>⟨0,by simp,rfl⟩
 | _,_,.cons (l₂:=l) a h=>by
  obtain ⟨m,hm,e⟩:=Ox h;have h2:2 ^ (l.length + 1)=2 * 2 ^ l.length:=by rw [Nat.pow_succ];omega
  refine ⟨2 * m,by rw [dQ,h2];omega,?_⟩;have h1:(2 * m).testBit 0=false:=by rw [Nat.testBit_zero];simp
  rw [part,if_neg (by rw [h1];simp),show 2 * m / 2=m by omega,e]
 | _,_,.cons_cons (l₂:=l) a h=>by
  obtain ⟨m,hm,e⟩:=Ox h;have h2:2 ^ (l.length + 1)=2 * 2 ^ l.length:=by rw [Nat.pow_succ];omega
  refine ⟨2 * m + 1,by rw [dQ,h2];omega,?_⟩;have h1:(2 * m + 1).testBit 0=true:=by rw [Nat.testBit_zero];simp
  rw [part,if_pos h1,show (2 * m + 1) / 2=m by omega,e]
theorem Uz (n:Nat):(iota n).Pairwise (· < ·):=by
 unfold iota;rw [List.pairwise_map];exact List.pairwise_lt_range.imp λh=>by omega
theorem zY {n:Nat} {x:Int}:x ∈ iota n ↔ 0<=x/\x < (n:Int):=by
 unfold iota;rw [fE];constructor
 ·rintro ⟨i,hi,rfl⟩;rw [List.mem_range] at hi;omega
 ·intro h;exact ⟨x.toNat,by rw [List.mem_range];omega,by omega⟩
theorem ajg:∀ m:Fin 64,num (part (iota 6) m.val)=m.val:=by decide +kernel
def abS (v:ag) (j:Nat):Bool:=match v[j]? with
 | none=>true
 | some i=>decide (num (v.take j) < 64) && (!((num (v.take j)).testBit i.toNat) && (decide (0<=i) && decide (i < 6)))
theorem ajh:∀ m:Fin 64,∀ j:Fin 7,abS (part (iota 6) m.val) j.val=true:=by decide +kernel
structure wM (v:ag) (m:Nat):Prop where
 lt:m < 64
 eq:v=part (iota 6) m
theorem Jj {v:ag} (hs:v.Pairwise (· < ·)) (hb:∀ x ∈ v,0<=x/\x < 6):∃ m,wM v m:=by
 obtain ⟨m,h1,h2⟩:=Ox (A.Jo hs (Uz 6) λx hx=>zY.2 (hb x hx));have:(iota 6).length=6:=by decide
 rw [this] at h1;exact ⟨m,h1,h2.symm⟩
theorem wM.num {v:ag} {m:Nat} (h:wM v m):K.num v=m:=by rw [h.eq];exact ajg ⟨m,h.lt⟩
theorem wM.len {v:ag} {m:Nat} (h:wM v m):v.length<=6:=by rw [h.eq];exact aN (qM _ _) (by decide)
theorem wM.at_ {v:ag} {m j:Nat} {i:Int} (h:wM v m) (hj:v[j]? = some i):K.num (v.take j) < 64/\(K.num (v.take j)).testBit i.toNat=false/\0<=i/\i < 6:=by
 have hl:=h.len;have hlt:=(zE.1 hj).1;have:=ajh ⟨m,h.lt⟩ ⟨j,by omega⟩;rw [<-h.eq] at this;unfold abS at this;simp only [hj,dH,gu,Bool.not_eq_true'] at this;exact ⟨this.1,this.2.1,this.2.2.1,this.2.2.2⟩
theorem wM.next {v:ag} {m j:Nat} {i:Int} (_:wM v m) (hj:v[j]? = some i):K.num (v.take (j + 1))=K.num (v.take j) + 2 ^ i.toNat:=by
 obtain ⟨hk,e⟩:=zE.1 hj;rw [sV hk,e,aji]
end K
structure Sh where
 A:Option Addr
 n:Nat
 c:Nat
 l:List Int
def Sh.val (s:Sh):Value:=.slice s.A s.n s.c
def pI (w:World) (gb:Nat) (az:List Sh):Prop:=w.heap[gb]? = some (.cells (az.map Sh.val).toArray 48 (0,0))
def yI (w:World) (b mb gb:Nat) (x:Cs):Prop :=
 w.heap[b]? = some (.cells #[.int .i64 x.nd,.slice x.A x.n x.c,.slice x.SA x.sn x.sc,.slice x.B x.m x.d,.slice (some ⟨gb,0,none⟩) x.sn x.sn,.map (some mb)] 100 (0,0))
def n_ (w:World) (X:Nat->Prop) (k:Int) (b:Option K.Tr) (v:Value):Prop:=match b with
 | none=>v=.pointer none
 | some t=>∃ g A n c A' n' c',v=.pointer (some ⟨g,0,none⟩)/\jr w g k (.slice A n c) (.slice A' n' c') t.end_/\Ints w A n t.stops/\Ints w A' n' t.times/\¬ X g/\(0 < n->∀ ad,A=some ad->¬ X ad.block)/\(0 < n'->∀ ad,A'=some ad->¬ X ad.block)/\n<=c/\n'<=c'
theorem n_.ext {w w':World} {X:Nat->Prop} {k:Int} {b:Option K.Tr} {v:Value} (h:n_ w X k b v) (hx:Ext w w'):n_ w' X k b v:=by
 cases b with
 | none=>exact h
 | some t =>
  obtain ⟨g,A,n,c,A',n',c',h1,h2,h3,h4,h5⟩:=h;exact ⟨g,A,n,c,A',n',c',h1,hx.cells _ _ _ _ h2,h3.ext hx,h4.ext hx,h5⟩
open Go.WideMaps Go.Maps Go.WideShapes
theorem akV:(159:TypeId) < Tryz.prog.types.size:=iH (by kernel_rfl)
theorem amD:(match Tryz.prog.underlying 159 with | some (.array _ _) | some (.struct _)=>true | _=>false)=true:=by rw [Tryz.underlying159]
theorem Dh:Keyed Tryz.prog 159:=Keyed.of_law (deep_law_laid laidOut (m:=2) (by omega) akV (by kernel_rfl) amD)
theorem X9:Tryz.prog.cellsOf 159=2:=by kernel_rfl
theorem ajH:Tryz.prog.keyType 159=true:=by kernel_rfl
theorem NK {f k:Int} (hf:(Lit.int .i64 f).wf=true) (hk:(Lit.int .i64 k).wf=true):∃ l,keyOf Tryz.prog 159 (.agg #[.int .i64 f,.int .i64 k])=some l:=by
 unfold keyOf;rw [Tryz.underlying159];simp only [ajH,Bool.true_and,Value.formed,Tryz.underlying159,X9];have hp:=aed;generalize Tryz.prog.types.size=N at *;obtain ⟨M,rfl⟩:∃ M,N=M + 1:=⟨N - 1,by omega⟩;have h1:Tryz.prog.keyLits (M + 1 + 1) 159 [.int .i64 f,.int .i64 k] = some ([Lit.int .i64 f] ++ [Lit.int .i64 k]):=by
  simp [Program.keyLits,Tryz.underlying159,Tryz.underlying3,X9,cells3,show List.range 2=[0,1] from rfl,hf,hk]
 have h2:(Value.agg #[Value.int IntKind.i64 f,Value.int IntKind.i64 k]).cells.toList=[.int .i64 f,.int .i64 k]:=rfl;rw [h2,h1];exact ⟨_,rfl⟩
def kC (w:World) (mb:Nat) (x:Cs) (X:Nat->Prop):Prop :=
 ∃ es clock,w.heap[mb]? = some (.map es clock)/\∀ e ∈ es.toList,∃ (k:Nat) (s:S) (m:Nat),x.ss[k]? = some s/\k<=1000000/\m < 64/\e.key=.agg #[.int .i64 (k:Int),.int .i64 (m:Int)]/\n_ w X k (K.best x.nd x.l s x.r (K.part (K.iota 6) m)) e.val
theorem kC.ext {w w':World} {mb:Nat} {x:Cs} {X:Nat->Prop} (h:kC w mb x X) (hg:w.grownBy w' (some mb)):Ext w w':=by
 obtain ⟨es,clock,hm,-⟩:=h;exact Ext.NF hm hg
theorem kC.keep {w w':World} {mb:Nat} {x:Cs} {X:Nat->Prop} (h:kC w mb x X) (he:Ext w w') (hm:w'.heap[mb]? = w.heap[mb]?):kC w' mb x X:=by
 obtain ⟨es,clock,hb,hes⟩:=h;refine ⟨es,clock,hm.trans hb,λe he'=>?_⟩;obtain ⟨k,s,m,h1,h2,h3,h4,h5⟩:=hes e he';exact ⟨k,s,m,h1,h2,h3,h4,h5.ext he⟩
theorem kC.below {w w':World} {mb:Nat} {x:Cs} {X:Nat->Prop} (h:kC w mb x X) (hb:af w w'):kC w' mb x X:=by
 have h1:=h;obtain ⟨es,clock,hm,-⟩:=h1;exact h.keep (Ext.below hb) (hb.block mb (l_.1 hm).1)
theorem Ag {k:Nat} (h:k<=1000000):(Lit.int .i64 (k:Int)).wf=true:=E5 (by omega) (by omega)
open Go.MapKept Go.ChangeMaps in
theorem kC.look {w:World} {mb:Nat} {x:Cs} {X:Nat->Prop} (h:kC w mb x X) {k m:Nat} {s:S} (hs:x.ss[k]? = some s) (hk:k<=1000000) (hm:m < 64) :
  ∃ v ok,(Instr.lookup 98 (.map (some mb)) (.agg #[.int .i64 (k:Int),.int .i64 (m:Int)]) true).run Tryz.prog w=.ok (.tuple #[v,.bool ok]) w/\(ok=true->n_ w X k (K.best x.nd x.l s x.r (K.part (K.iota 6) m)) v)/\(ok=false->v=.pointer none):=by
 obtain ⟨es,clock,hb,hes⟩:=h;obtain ⟨kl,hkey⟩:=NK (Ag hk) (Ag (k:=m) (by omega));have hkeys:∀ e ∈ es.toList,∃ l,keyOf Tryz.prog 159 e.key=some l:=λe he=>by
  obtain ⟨k',s',m',-,h2,h3,h4,-⟩:=hes e he;rw [h4];exact NK (Ag h2) (Ag (k:=m') (by omega))
 rcases Dh.find w hkey es.toList hkeys with ⟨h1,h2⟩ | ⟨j,e0,h1,h2,h3⟩
 ·refine ⟨.pointer none,false,?_,λe=>(nomatch e),λ_=>rfl⟩;simp [Instr.lookup,run_underlying Tryz.underlying98,MapKept.run_getObj_map hb,Dh.check w _ hkey,h1,Result.andThen]
 ·obtain ⟨k',s',m',g1,-,-,g4,g5⟩:=hes e0 (zD h2);rw [h3] at g4;injection g4 with g4;simp at g4;obtain ⟨e1,e2⟩:=g4;have e1:k=k':=by omega
  have e2:m=m':=by omega
  subst e1 e2;rw [hs] at g1;injection g1 with g1;subst g1;refine ⟨e0.val,true,?_,λ_=>g5,λe=>(nomatch e)⟩;simp [Instr.lookup,run_underlying Tryz.underlying98,MapKept.run_getObj_map hb,Dh.check w _ hkey,h1,Result.andThen]
open Go.MapKept Go.ChangeMaps in
theorem kC.store {w:World} {mb:Nat} {x:Cs} {X:Nat->Prop} (h:kC w mb x X) {k m:Nat} {s:S} (hs:x.ss[k]? = some s) (hk:k<=1000000) (hm:m < 64) {v:Value} (hv:n_ w X k (K.best x.nd x.l s x.r (K.part (K.iota 6) m)) v) :
  ∃ w',(Instr.mapUpdate 98 (.map (some mb)) (.agg #[.int .i64 (k:Int),.int .i64 (m:Int)]) v).run Tryz.prog w=.ok () w'/\kC w' mb x X/\w.grownBy w' (some mb):=by
 obtain ⟨es,clock,hb,hes⟩:=h;obtain ⟨kl,hkey⟩:=NK (Ag hk) (Ag (k:=m) (by omega));have hkeys:∀ e ∈ es.toList,∃ l,keyOf Tryz.prog 159 e.key=some l:=λe he=>by
  obtain ⟨k',s',m',-,h2,h3,h4,-⟩:=hes e he;rw [h4];exact NK (Ag h2) (Ag (k:=m') (by omega))
 have hgr:∀ es' clock',w.grownBy (setBlock w mb (.map es' clock')) (some mb):=λes' clock'=>⟨rfl,rfl,rfl,by simp [setBlock],λi _ hi=>heap_setBlock_other hb _ (λe=>hi (by rw [e]))⟩;have hmk:∀ es' clock',(∀ e ∈ es'.toList,e ∈ es.toList\/(e.key=.agg #[.int .i64 (k:Int),.int .i64 (m:Int)]/\e.val=v))->kC (setBlock w mb (.map es' clock')) mb x X:=λes' clock' he=>by
  have hx:=Ext.NF hb (hgr es' clock');refine ⟨es',clock',heap_setBlock_same hb _,λe h9=>?_⟩;rcases he e h9 with h9 | ⟨h9,h10⟩
  ·obtain ⟨k',s',m',h1,h2,h3,h4,h5⟩:=hes e h9;exact ⟨k',s',m',h1,h2,h3,h4,h5.ext hx⟩
  ·exact ⟨k,s,m,hs,hk,hm,h9,by rw [h10];exact hv.ext hx⟩
 rcases Dh.find w hkey es.toList hkeys with ⟨h1,h2⟩ | ⟨j,e0,h1,h2,h3⟩
 ·refine ⟨setBlock w mb (.map (es.push ⟨.agg #[.int .i64 (k:Int),.int .i64 (m:Int)],v,clock⟩) (clock + 1)),?_,hmk _ _ ?_,hgr _ _⟩
  ·simp [Instr.mapUpdate,run_underlying Tryz.underlying98,MapKept.run_getObj_map hb,Dh.check w false hkey,h1,MapKept.run_setObj_map _ hb,Result.andThen,setBlock]
  ·intro e he;simp only [Array.toList_push,dX,dB] at he;rcases he with he | rfl
   ·exact .inl he
   ·exact .inr ⟨rfl,rfl⟩
 ·have hj:es[j]? = some e0:=by simpa using h2
  refine ⟨setBlock w mb (.map (es.modify j λe=>{ e with key:=.agg #[.int .i64 (k:Int),.int .i64 (m:Int)],val:=v }) clock),?_,hmk _ _ ?_,hgr _ _⟩
  ·simp [Instr.mapUpdate,run_underlying Tryz.underlying98,MapKept.run_getObj_map hb,Dh.check w false hkey,h1,hj,h3,Dh.stays w hkey,MapKept.run_setObj_map _ hb,Result.andThen,setBlock]
  ·intro e he;rw [Array.mem_toList_iff,Array.mem_iff_getElem?] at he;obtain ⟨i,he⟩:=he;rw [Array.getElem?_modify] at he;by_cases hij:j=i
   ·rw [if_pos hij,<-hij,hj] at he;simp at he;subst he;exact .inr ⟨rfl,rfl⟩
   ·rw [if_neg hij] at he;exact .inl (by rw [Array.mem_toList_iff,Array.mem_iff_getElem?];exact ⟨i,he⟩)
structure gJ (w0 w:World) (b mb gb:Nat) (x:Cs) (X:Nat->Prop) (az:List Sh):Prop where
 case:eu w0 x
 bw:af w0 w
 hb:w0.heap.size<=b
 hm:w0.heap.size<=mb
 hg:w0.heap.size<=gb
 blk:yI w b mb gb x
 sh:pI w gb az
 len:az.length=x.sn
 ints:∀ s ∈ az,Ints w s.A s.n s.l/\s.n<=s.c
 memo:kC w mb x X
 ok:K.bK x.nd x.l x.ss x.r=0
 away:∀ g,X g->w0.heap.size<=g/\g ≠ b/\g ≠ mb/\g ≠ gb/\∀ s ∈ az,0 < s.n->∀ ad,s.A=some ad->ad.block ≠ g
theorem gJ.keep {w0 w w':World} {b mb gb:Nat} {x:Cs} {X:Nat->Prop} {az:List Sh} (h:gJ w0 w b mb gb x X az) (hb:af w0 w') (he:Ext w w') (hm:kC w' mb x X):gJ w0 w' b mb gb x X az :=
 ⟨h.case,hb,h.hb,h.hm,h.hg,he.cells _ _ _ _ h.blk,he.cells _ _ _ _ h.sh,h.len,λs hs=>⟨(h.ints s hs).1.ext he,(h.ints s hs).2⟩,hm,h.ok,h.away⟩
theorem gJ.below {w0 w w':World} {b mb gb:Nat} {x:Cs} {X:Nat->Prop} {az:List Sh} (h:gJ w0 w b mb gb x X az) (hb:af w w'):gJ w0 w' b mb gb x X az :=
 h.keep (bel h.bw hb) (Ext.below hb) (h.memo.below hb)
theorem gJ.grown {w0 w w':World} {b mb gb:Nat} {x:Cs} {X:Nat->Prop} {az:List Sh} (h:gJ w0 w b mb gb x X az) (hg:w.grownBy w' (some mb)) (hm:kC w' mb x X):gJ w0 w' b mb gb x X az :=
 h.keep (dY h.bw hg (λk e=>by injection e with e;rw [<-e];exact h.hm)) (h.memo.ext hg) hm
def JW:Nat->Prop:=λ_=>False
theorem n_.more {w:World} {X Y:Nat->Prop} {k:Int} {b:Option K.Tr} {v:Value} (h:n_ w X k b v) (hY:∀ g,g < w.heap.size->Y g->X g):n_ w Y k b v:=by
 cases b with
 | none=>exact h
 | some t =>
  obtain ⟨g,A,n,c,A',n',c',h1,h2,h3,h4,h5,h6,h7,h8⟩:=h;have hlt:∀ {A:aj} {n:Nat} {l:ag},Ints w A n l->0 < n->∀ ad,A=some ad->ad.block < w.heap.size:=λhI h0 ad e=>by
   obtain ⟨ad',y,e',-,hc⟩:=hI.at_ h0;rw [e] at e';injection e' with e';rw [e'];exact cell_lt hc
  exact ⟨g,A,n,c,A',n',c',h1,h2,h3,h4,λhy=>h5 (hY _ (lt_of_block h2) hy),λh0 ad e hy=>h6 h0 ad e (hY _ (hlt h3 h0 ad e) hy),λh0 ad e hy=>h7 h0 ad e (hY _ (hlt h4 h0 ad e) hy),h8⟩
theorem kC.more {w:World} {mb:Nat} {x:Cs} {X Y:Nat->Prop} (h:kC w mb x X) (hY:∀ g,g < w.heap.size->Y g->X g):kC w mb x Y:=by
 obtain ⟨es,clock,hb,hes⟩:=h;refine ⟨es,clock,hb,λe he'=>?_⟩;obtain ⟨k,s,m,h1,h2,h3,h4,h5⟩:=hes e he';exact ⟨k,s,m,h1,h2,h3,h4,h5.more hY⟩
theorem gJ.cs {w0 w:World} {b mb gb:Nat} {x:Cs} {X:Nat->Prop} {az:List Sh} (h:gJ w0 w b mb gb x X az):eu w x:=h.case.below h.bw
theorem gJ.one {w0 w:World} {b mb gb:Nat} {x:Cs} {X:Nat->Prop} {az:List Sh} (h:gJ w0 w b mb gb x X az) {s:S} (hs:s ∈ x.ss):At w (x.one s):=h.cs.case hs
end
def Xf (x:Cs) (w w':World) (e:Ending):Prop:=∃ b mb gb,e=.returned (.pointer (some ⟨b,0,none⟩))/\gJ w w' b mb gb x JW (List.replicate x.sn ⟨none,0,0,[]⟩)
theorem acY {x:Cs} {w w':World} {b mb gb:Nat} (hx:eu w x) (hok:K.bK x.nd x.l x.ss x.r=0) (hb:af w w') (h1:w.heap.size<=b) (h2:w.heap.size<=mb) (h3:w.heap.size<=gb) (hp:yI w' b mb gb x)
  (hs:w'.heap[gb]? = some (.cells (List.replicate x.sn (Value.slice none 0 0)).toArray 48 (0,0))) (hm:w'.heap[mb]? = some (.map #[] 0)):Xf x w w' (.returned (.pointer (some ⟨b,0,none⟩))):=by
 refine ⟨b,mb,gb,rfl,hx,hb,h1,h2,h3,hp,?_,by simp,λs h=>?_,⟨#[],0,hm,λe he=>by simp at he⟩,hok,λg hg=>hg.elim⟩
 ·unfold pI;rw [hs,List.map_replicate];rfl
 ·rw [List.eq_of_mem_replicate h];exact ⟨iQ _,zG _⟩
theorem alS (x:Cs) (w:World) (hx:eu w x) (hok:K.bK x.nd x.l x.ss x.r=0) :
  ay 66 #[.agg #[.int .i64 x.nd,.slice x.A x.n x.c],.slice x.SA x.sn x.sc,.slice x.B x.m x.d] w λe w'=>Xf x w w' e:=by
 have hN:=Net.new w x.nd x.A x.n x.c;have z1:=aF w (.cells #[.int .i64 x.nd,.slice x.A x.n x.c] 24);have b1:af w (w.alloc (.cells #[.int .i64 x.nd,.slice x.A x.n x.c] 24)):=ai.alloc (zG _) _;obtain ⟨w1,hw1⟩:=zB (w.alloc (.cells #[.int .i64 x.nd,.slice x.A x.n x.c] 24));have hsn:x.sn<=1000000:=by have:=(K.kT hok).2.1;rw [hx.shifts.1.1];omega
 go_enter Tryz.func66,Tryz.ntmps66;go_wp2_with fail;rw [<-hw1] at hN z1 b1 ⊢;clear hw1;have hmk:=λw'=>Nv x.sn hsn w';have hmm:=@run_makeMap Tryz.prog;have hS:∀ w',af w1 w'->(qZ w w1 x) w':=λw' h=>⟨h,(hN.below h).c0,(hN.below h).c1⟩;have S0:=hS _ ai;have hSd:∀ w',(qZ w w1 x) w'->(qZ w w1 x) w'.drew:=λw' h=>hS _ h.1.drew;have fK:∀ w' o,(qZ w w1 x) w'->(qZ w w1 x) (w'.alloc o):=λw' o h=>hS _ (bel h.1 (ai.alloc (zG _) _))
 go_region_held3 (qZ w w1 x)
  (first | assumption | exact S0 | exact hSd _ S0 | exact hSd _ (by assumption) | exact fK _ _ (by assumption) | exact fK _ _ (fK _ _ (by assumption)) | exact fK _ _ (hSd _ S0))
  (fail)
 ·go_wp2_with fail;go_ret;have za:=aF w1 (.cells (Array.replicate x.sn (Value.slice none 0 0)) 48);have zb:=aF (w1.alloc (.cells (Array.replicate x.sn (Value.slice none 0 0)) 48)) (.map #[] 0);refine acY (mb:=w.heap.size + 1 + 1) (gb:=w.heap.size + 1) hx hok (bel b1 (bel (bel (ai.alloc (zG _) _) (ai.alloc (zG _) _)) ((ai.alloc (zG _) _).drew))) (by omega) (by omega) (by omega) ?_ ?_ ?_
  ·exact bU _ _ _ (by rw [zb,za,z1])
  ·exact aO (aO (bU _ _ _ z1.symm) _) _ |>.trans (by simp)
  ·exact aO (bU _ _ _ (by rw [za,z1])) _
 ·go_wp2_with fail;go_ret;have za:=aF w1 (.map #[] 0);have zb:=aF (w1.alloc (.map #[] 0)) (.cells (Array.replicate x.sn (Value.slice none 0 0)) 48);refine acY (mb:=w.heap.size + 1) (gb:=w.heap.size + 1 + 1) hx hok (bel b1 (bel (bel (ai.alloc (zG _) _) (ai.alloc (zG _) _)) ((ai.alloc (zG _) _).drew))) (by omega) (by omega) (by omega) ?_ ?_ ?_
  ·exact bU _ _ _ (by rw [zb,za,z1])
  ·exact aO (bU _ _ _ (by rw [za,z1])) _ |>.trans (by simp)
  ·exact aO (aO (bU _ _ _ z1.symm) _) _
def aeP (w0 w w':World) (b mb gb:Nat) (x:Cs) (X:Nat->Prop) (az:List Sh) (k:Nat) (t:Option K.Tr) (e:Ending):Prop :=
 (∃ u,e=.returned u/\n_ w' X k t u)/\w.grownBy w' (some mb)/\gJ w0 w' b mb gb x X az
theorem Ints.nD {w:World} {A:aj} {n:Nat} {l:ag} (h:Ints w A n l) (h0:0 < n) {ad:Addr} (e:A=some ad):ad.block < w.heap.size:=by
 obtain ⟨ad',y,e',-,hc⟩:=h.at_ h0;rw [e] at e';injection e' with e';rw [e'];exact cell_lt hc
theorem Ints.set1 {w:World} {A:aj} {n:Nat} {l:ag} (h:Ints w A n l) {g i:Nat} (u:Value) (hg:0 < n->∀ ad,A=some ad->ad.block ≠ g):Ints (w.setCell ⟨g,i,none⟩ u) A n l:=by
 by_cases h0:0 < n
 ·exact h.set u (hg h0)
 ·exact ⟨h.1,h.2.1,λh1=>absurd h1 h0⟩
def yF (w:World) (H:Nat) (k m:Int):Prop:=w.heap[H]? = some (.cells #[.int .i64 k,.int .i64 m] 159 (0,0))
def sH (b mb gb H k m:Nat) (x:Cs) (s:S) (ad:Addr) (w':World):Prop:=(pJ b H gb mb k m x ad s) w'
theorem sH.mk' {w w':World} {b mb gb H k m:Nat} {x:Cs} {s:S} {ad:Addr} (hK:yF w H k m) (hb:yI w b mb gb x) (hA:x.SA=some ad) (hs:x.ss[k]? = some s) (hx:eu w x) (he:Ext w w'):sH b mb gb H k m x s ad w':=by
 have hb':yI w' b mb gb x:=he.cells _ _ _ _ hb;have hK':yF w' H k m:=he.cells _ _ _ _ hK;have hlt:k < x.sn:=by rw [hx.shifts.1.1];exact (zE.1 hs).1
 obtain ⟨ad',s',hA',hs',-,c0,c1,c2,c3,c4,c5⟩:=(hx.ext he).shifts.at_ hlt;rw [hA] at hA';injection hA' with hA';subst hA';rw [hs] at hs';injection hs' with hs';subst hs';refine ⟨ah hK' 0 _ rfl,ah hK' 1 _ rfl,ah hb' 0 _ rfl,ah hb' 1 _ rfl,?_,ah hb' 3 _ rfl,ah hb' 4 _ rfl,ah hb' 5 _ rfl,c0,c1,c2,c3,c4,c5⟩;rw [<-hA];exact ah hb' 2 _ rfl
def Old (w:World) (g:Nat):Prop:=g < w.heap.size
def NT (w:World) (ts:List TV):Prop:=∀ y ∈ ts,(0 < y.n->∀ ad,y.A=some ad->w.heap.size<=ad.block)/\(0 < y.n'->∀ ad,y.A'=some ad->w.heap.size<=ad.block)/\y.n<=y.c/\y.n'<=y.c'
theorem NT.snoc {w:World} {ts:List TV} (h:NT w ts) {y:TV} (h1:0 < y.n->∀ ad,y.A=some ad->w.heap.size<=ad.block) (h2:0 < y.n'->∀ ad,y.A'=some ad->w.heap.size<=ad.block) (h3:y.n<=y.c/\y.n'<=y.c'):NT w (ts ++ [y]):=λz hz=>by
 rcases dX.1 hz with hz | hz
 ·exact h z hz
 ·rw [dB.1 hz];exact ⟨h1,h2,h3⟩
structure iE (w0 w:World) (b mb gb:Nat) (x:Cs) (X:Nat->Prop) (az:List Sh):Prop where
 case:eu w0 x
 bw:af w0 w
 hb:w0.heap.size<=b
 hm:w0.heap.size<=mb
 hg:w0.heap.size<=gb
 blk:yI w b mb gb x
 sh:pI w gb az
 len:az.length=x.sn
 ints:∀ s ∈ az,Ints w s.A s.n s.l/\s.n<=s.c
 memo:kC w mb x X
 ok:K.bK x.nd x.l x.ss x.r=0
 away:∀ g,X g->0<=g/\g ≠ b/\g ≠ mb/\g ≠ gb/\∀ s ∈ az,0 < s.n->∀ ad,s.A=some ad->ad.block ≠ g
theorem iE.keep {w0 w w':World} {b mb gb:Nat} {x:Cs} {X:Nat->Prop} {az:List Sh} (h:iE w0 w b mb gb x X az) (hb:af w0 w') (he:Ext w w') (hm:kC w' mb x X):iE w0 w' b mb gb x X az :=
 ⟨h.case,hb,h.hb,h.hm,h.hg,he.cells _ _ _ _ h.blk,he.cells _ _ _ _ h.sh,h.len,λs hs=>⟨(h.ints s hs).1.ext he,(h.ints s hs).2⟩,hm,h.ok,h.away⟩
theorem iE.below {w0 w w':World} {b mb gb:Nat} {x:Cs} {X:Nat->Prop} {az:List Sh} (h:iE w0 w b mb gb x X az) (hb:af w w'):iE w0 w' b mb gb x X az :=
 h.keep (bel h.bw hb) (Ext.below hb) (h.memo.below hb)
theorem iE.grown {w0 w w':World} {b mb gb:Nat} {x:Cs} {X:Nat->Prop} {az:List Sh} (h:iE w0 w b mb gb x X az) (hg:w.grownBy w' (some mb)) (hm:kC w' mb x X):iE w0 w' b mb gb x X az :=
 h.keep (dY h.bw hg (λk e=>by injection e with e;rw [<-e];exact h.hm)) (h.memo.ext hg) hm
theorem iE.cs {w0 w:World} {b mb gb:Nat} {x:Cs} {X:Nat->Prop} {az:List Sh} (h:iE w0 w b mb gb x X az):eu w x:=h.case.below h.bw
theorem iE.one {w0 w:World} {b mb gb:Nat} {x:Cs} {X:Nat->Prop} {az:List Sh} (h:iE w0 w b mb gb x X az) {s:S} (hs:s ∈ x.ss):At w (x.one s):=h.cs.case hs
def Xg (x:Cs) (w w':World) (e:Ending):Prop:=∃ b mb gb,e=.returned (.pointer (some ⟨b,0,none⟩))/\∀ X:Nat->Prop,(∀ g,X g->g < w.heap.size)->iE w w' b mb gb x X (List.replicate x.sn ⟨none,0,0,[]⟩)
theorem acX {x:Cs} {w w':World} {b mb gb:Nat} (hx:eu w x) (hok:K.bK x.nd x.l x.ss x.r=0) (hb:af w w') (h1:w.heap.size<=b) (h2:w.heap.size<=mb) (h3:w.heap.size<=gb) (hp:yI w' b mb gb x)
  (hs:w'.heap[gb]? = some (.cells (List.replicate x.sn (Value.slice none 0 0)).toArray 48 (0,0))) (hm:w'.heap[mb]? = some (.map #[] 0)):Xg x w w' (.returned (.pointer (some ⟨b,0,none⟩))):=by
 refine ⟨b,mb,gb,rfl,λX hX=>⟨hx,hb,h1,h2,h3,hp,?_,by simp,λs h=>?_,⟨#[],0,hm,λe he=>by simp at he⟩,hok,λg hg=>⟨aW _,by have:=hX g hg;omega,by have:=hX g hg;omega,by have:=hX g hg;omega,λs hs h0=>absurd h0 (by rw [List.eq_of_mem_replicate hs];exact Nat.lt_irrefl _)⟩⟩⟩
 ·unfold pI;rw [hs,List.map_replicate];rfl
 ·rw [List.eq_of_mem_replicate h];exact ⟨iQ _,zG _⟩
theorem alR (x:Cs) (w:World) (hx:eu w x) (hok:K.bK x.nd x.l x.ss x.r=0) :
  ay 66 #[.agg #[.int .i64 x.nd,.slice x.A x.n x.c],.slice x.SA x.sn x.sc,.slice x.B x.m x.d] w λe w'=>Xg x w w' e:=by
 have hN:=Net.new w x.nd x.A x.n x.c;have z1:=aF w (.cells #[.int .i64 x.nd,.slice x.A x.n x.c] 24);have b1:af w (w.alloc (.cells #[.int .i64 x.nd,.slice x.A x.n x.c] 24)):=ai.alloc (zG _) _;obtain ⟨w1,hw1⟩:=zB (w.alloc (.cells #[.int .i64 x.nd,.slice x.A x.n x.c] 24));have hsn:x.sn<=1000000:=by have:=(K.kT hok).2.1;rw [hx.shifts.1.1];omega
 go_enter Tryz.func66,Tryz.ntmps66;go_wp2_with fail;rw [<-hw1] at hN z1 b1 ⊢;clear hw1;have hmk:=λw'=>Nv x.sn hsn w';have hmm:=@run_makeMap Tryz.prog;have hS:∀ w',af w1 w'->(qZ w w1 x) w':=λw' h=>⟨h,(hN.below h).c0,(hN.below h).c1⟩;have S0:=hS _ ai;have hSd:∀ w',(qZ w w1 x) w'->(qZ w w1 x) w'.drew:=λw' h=>hS _ h.1.drew;have fK:∀ w' o,(qZ w w1 x) w'->(qZ w w1 x) (w'.alloc o):=λw' o h=>hS _ (bel h.1 (ai.alloc (zG _) _))
 go_region_held3 (qZ w w1 x)
  (first | assumption | exact S0 | exact hSd _ S0 | exact hSd _ (by assumption) | exact fK _ _ (by assumption) | exact fK _ _ (fK _ _ (by assumption)) | exact fK _ _ (hSd _ S0))
  (fail)
 ·go_wp2_with fail;go_ret;have za:=aF w1 (.cells (Array.replicate x.sn (Value.slice none 0 0)) 48);have zb:=aF (w1.alloc (.cells (Array.replicate x.sn (Value.slice none 0 0)) 48)) (.map #[] 0);refine acX (mb:=w.heap.size + 1 + 1) (gb:=w.heap.size + 1) hx hok (bel b1 (bel (bel (ai.alloc (zG _) _) (ai.alloc (zG _) _)) ((ai.alloc (zG _) _).drew))) (by omega) (by omega) (by omega) ?_ ?_ ?_
  ·exact bU _ _ _ (by rw [zb,za,z1])
  ·exact aO (aO (bU _ _ _ z1.symm) _) _ |>.trans (by simp)
  ·exact aO (bU _ _ _ (by rw [za,z1])) _
 ·go_wp2_with fail;go_ret;have za:=aF w1 (.map #[] 0);have zb:=aF (w1.alloc (.map #[] 0)) (.cells (Array.replicate x.sn (Value.slice none 0 0)) 48);refine acX (mb:=w.heap.size + 1) (gb:=w.heap.size + 1 + 1) hx hok (bel b1 (bel (bel (ai.alloc (zG _) _) (ai.alloc (zG _) _)) ((ai.alloc (zG _) _).drew))) (by omega) (by omega) (by omega) ?_ ?_ ?_
  ·exact bU _ _ _ (by rw [zb,za,z1])
  ·exact aO (bU _ _ _ (by rw [za,z1])) _ |>.trans (by simp)
  ·exact aO (aO (bU _ _ _ z1.symm) _) _
def aeQ (w0 w w':World) (b mb gb:Nat) (x:Cs) (X:Nat->Prop) (az:List Sh) (k:Nat) (t:Option K.Tr) (e:Ending):Prop :=
 (∃ u,e=.returned u/\n_ w' X k t u)/\w.grownBy w' (some mb)/\iE w0 w' b mb gb x X az
theorem Qu (w0:World) (b mb gb:Nat) (x:Cs) {X:Nat->Prop} (az:List Sh) (k:Nat) (s:S) (V:aj) (vn vc:Nat) (v:ag) (w:World) (hp:iE w0 w b mb gb x X az) (hX:∀ g,X g->g < w.heap.size) (hs:x.ss[k]? = some s) (hV:Ints w V vn v) (jV:vn<=vc) (hvs:v.Pairwise (· < ·)) (hvb:∀ i ∈ v,0<=i/\i < (x.r.length:Int)) :
  ay 68 #[.pointer (some ⟨b,0,none⟩),.int .i64 k,.slice V vn vc] w λe w'=>aeQ w0 w w' b mb gb x X az k (K.best x.nd x.l s x.r v) e:=by
 obtain ⟨h1,h2,h3,h4,h5⟩:=K.kT hp.ok;obtain ⟨m,h6⟩:=K.Jj hvs λi hi=>by have:=hvb i hi;omega
 have hm:=h6.lt;have hsm:=zD hs;have aY:=zC (K.NH hp.ok hsm hvs hvb);have hlt:k < x.ss.length:=(zE.1 hs).1;have hsn:=hp.case.shifts.1.1;have ahz:k < x.sn:=by rw [hsn];exact hlt
 have hk4:k<=4:=by omega
 have hk6:k<=1000000:=by omega
 have hv6:vn<=6:=by rw [hV.1];exact h6.len
 have HL:=zC hV.1;have HS:=zC hs;have H6:=zC h6;obtain ⟨ad,-,hA,-⟩:=hp.cs.shifts.at_ ahz;have HA:=zC hA;have anE:w0.heap.size<=w.heap.size:=hp.bw.size;clear h1 h2 h3 h4 h5 hvs hvb hsm hlt hsn hs h6 hA;obtain ⟨w1,hw1⟩:=zB (w.alloc (.cells #[.int .i64 k,.int .i64 0] 159));obtain ⟨H,hH⟩:=zB w.heap.size;have b1:=aH hw1;have hK1:yF w1 H k 0:=by rw [hw1,hH];exact aA _ _
 have HH:=zC hH;go_enter Tryz.func68,Tryz.ntmps68;go_upto_region 3 with fail;rw [<-hw1,<-hH];clear hw1 hH;go_loopw [18] (λv18 wr=>∃ j:Nat,v18=.int .i64 j/\j<=vn/\yF wr H k (K.num (v.take j))/\af w wr) (λv18 _=>vn - (intOf v18).toNat)
 case atStart=>exact ⟨0,rfl,aW _,hK1,b1⟩
 case round =>
  clear hK1 b1;obtain ⟨j,rfl,hj,hK,hbr⟩:=hrel;by_cases hlt:j < vn
  ·obtain ⟨jJ,i,BR,hi,ci⟩:=(hV.below hbr).at_ hlt;obtain ⟨g1,g2,g3,g4⟩:=H6.out.at_ hi;have HN:=zC (H6.out.next hi);obtain ⟨i,rfl⟩:∃ n:Nat,i=(n:Int):=⟨i.toNat,by omega⟩;rw [kE] at g2 HN;obtain ⟨nm,hnm⟩:=zB (K.num (v.take j));rw [<-hnm] at g1 g2 hK HN;obtain ⟨mm,hmm⟩:=zB (nm + 2 ^ i);have hor:bits BinOp.or IntKind.i64 (nm:Int) (IntKind.i64.wrap (2 ^ i))=(mm:Int):=by rw [sG (by omega),KG g1 (by omega) g2,hmm]
   have aaD:bits BinOp.or IntKind.i64 (nm:Int) (wrap64 (2 ^ i))=(mm:Int):=by rw [<-IntWalk.i64_left];exact hor
   have HM:=zC (show K.num (v.take (j + 1))=mm by rw [HN.out,hmm]);obtain ⟨c0,c1⟩:=OQ hK;have f1:=b_ hK;obtain ⟨k0,k1⟩:=zJ (a:=j) (b:=vn) (by omega);have k2:(0:Int)<=(i:Int):=by omega
   have k3:(i:Int) < 64:=by omega
   have HI6:=zC (show i < 6 by omega);clear hi hmm hnm HN g1 g2 g3 g4;rw [BR];go_wp2_with fail;go_region
   go_wp2_with fail;go_roundw
   case rel=>exact ⟨j + 1,by go_num,hlt,by rw [HM.out];exact di hK 1 _,(hbr.setCell (by rw [HH.out];exact zG _) _).drew⟩
   case measure=>simp [intOf];omega
  ·have hK:yF wr H k m:=by
    have h9:=hK;rw [fD (by rw [<-HL.out];omega),H6.out.num] at h9;exact h9
   have hp1:=hp.below hbr;have HP:=zC hp1;have HK:=zC hK;have HB:=zC hbr;have hmk:∀ w',af wr w'->sH b mb gb H k m x s ad w':=λw' h=>sH.mk' HK.out HP.out.blk HA.out HS.out HP.out.cs (Ext.below h);have hbd:af wr wr.drew:=ai.drew;have S0:(pJ b H gb mb k m x ad s) wr:=hmk _ ai;have aQ:(pJ b H gb mb k m x ad s) wr.drew:=hmk _ hbd;obtain ⟨val,ok,hlook,hy,hn⟩:=(hp1.memo.below hbd).look HS.out hk6 hm;rw [<-H6.out.eq] at hy;clear hp1 hK hbr hmk;go_wp2_with fail
   go_region_held3 (pJ b H gb mb k m x ad s)
    (with_reducible first | exact aQ | exact S0 | fail)
    (fail)
   obtain ⟨wd,hwd⟩:=zB wr.drew;rw [<-hwd] at hy hbd ⊢;have hp2:=HP.out.below hbd;have hg2:w.grownBy wd (some mb):=jg (jg (qy w _) HB.out) hbd;clear hlook S0 aQ hwd;cases ok
   ·obtain rfl:=hn rfl;clear hy hn;have hK2:yF wd H k m:=au hbd HK.out;have HP2:=zC hp2;have FH:=zC hK2;have HG2:=zC hg2;have t_:=hV.below (bel HB.out hbd);have hmk:∀ w',af wd w'->(pJ b H gb mb k m x ad s) w':=λw' h=>sH.mk' FH.out HP2.out.blk HA.out HS.out HP2.out.cs (Ext.below h);have hbd0:af wd wd:=ai;have S0:=hmk _ hbd0;obtain ⟨Y,hY⟩:=zB (K.jF x.nd x.l s x.r v);have HY:=zC hY;have ba:af wd (wd.alloc (.cells #[.int .i64 0,.slice none 0 0,.slice none 0 0,.int .i64 0] 80)):=ai.alloc (zG _) _;have uP:=hmk _ ba;have aQ:=hmk _ hbd0.drew;have yJ:=hmk _ ba.drew;have hAt:=λw' (h:af wd w')=>(HP2.out.below h).one (zD HS.out);have IC:vn<=1000000000:=by omega
    have P7:=zC (show ∀ g,wd.heap.size<=g->X g->False from λg h1 h2=>by have:=hX g h2;have:=HB.out.size;have:=hbd.size;omega);clear hY hp2 hK2 hg2;go_wp2_with fail;go_cut [12,13] from 40 to 59 (λv12 v13 wc=>∃ g A n c A' n' c',v12=.pointer (some ⟨g,0,none⟩)/\v13=.int .i64 Y.2/\jr wc g 0 (.slice A n c) (.slice A' n' c') Y.1.end_/\Ints wc A n Y.1.stops/\Ints wc A' n' Y.1.times/\af wd wc/\wd.heap.size<=g/\(0 < n->∀ ad,A=some ad->ad.block ≠ g)/\(0 < n'->∀ ad,A'=some ad->ad.block ≠ g)/\(∀ ad,A=some ad->wd.heap.size<=ad.block)/\(∀ ad,A'=some ad->wd.heap.size<=ad.block)/\n<=c/\n'<=c')
    case first =>
     go_region_held3 (pJ b H gb mb k m x ad s)
      (with_reducible first | exact F_ | exact F8 | exact F7 | exact S1 | exact yJ | exact uP | exact aQ | exact S0 | fail)
      (first
       | (go_at_call 125;refine (afg (x.one s) V vn vc v _ (hAt _ ?_) (t_.below ?_) jV IC).mono ?_;(first | with_reducible exact hbd0 | with_reducible exact ba | with_reducible exact hbd0.drew | with_reducible exact ba.drew);(first | with_reducible exact hbd0 | with_reducible exact ba | with_reducible exact hbd0.drew | with_reducible exact ba.drew);rw [show K.jF (x.one s).nd (x.one s).l (x.one s).s (x.one s).r v=Y from HY.out.symm];rintro e w5 ⟨⟨A0,n0,c0,A1,n1,c1,rfl,hI0,hI1,hf0,hf1,hk0,hk1⟩,hbn⟩;(first | (have b5:=bel hbd0.drew hbn;have yP:=bel b5 (ai.alloc (zG _) (.cells #[.int .i64 0,.slice A0 n0 c0,.slice A1 n1 c1,.int .i64 Y.1.end_] 80));have F8:=hmk _ yP;have F7:=hmk _ (bel b5 (ai.alloc (zG _) (.cells #[.int .i64 0,.slice none 0 0,.slice none 0 0,.int .i64 0] 80)))) | (have b5:=bel ba.drew hbn;have fM:=au hbn (aA wd (.cells #[.int .i64 0,.slice none 0 0,.slice none 0 0,.int .i64 0] 80));have F_:=hmk _ (mX b5 (zG _) (.int .i64 0) (.slice A0 n0 c0) (.slice A1 n1 c1) (.int .i64 Y.1.end_));obtain ⟨t0,t1,t2,t3⟩:=jr.cells (h:=0) fM;have tf:=b_ fM));have S1:=hmk _ b5)
       | fail)
     ·go_wp2_with fail;go_meet
      case rel=>(go_light;exact ⟨w5.heap.size,A0,n0,c0,A1,n1,c1,rfl,rfl,aA _ _,hI0.below (ai.alloc (zG _) _),hI1.below (ai.alloc (zG _) _),yP,b5.size,λh0 ad' e h9=>Nat.lt_irrefl _ (h9 ▸ hI0.nD h0 e),λh0 ad' e h9=>Nat.lt_irrefl _ (h9 ▸ hI1.nD h0 e),hf0,hf1,hk0,hk1⟩)
     ·have lW:=aF wd (.cells #[.int .i64 0,.slice none 0 0,.slice none 0 0,.int .i64 0] 80);have hne0:∀ ad':Addr,A0=some ad'->ad'.block ≠ wd.heap.size:=λad' e h9=>by
       have h8:=hf0 ad' e;rw [h9] at h8;have h8:(wd.alloc (.cells #[.int .i64 0,.slice none 0 0,.slice none 0 0,.int .i64 0] 80)).heap.size<=wd.heap.size:=h8;omega
      have hne1:∀ ad':Addr,A1=some ad'->ad'.block ≠ wd.heap.size:=λad' e h9=>by
       have h8:=hf1 ad' e;rw [h9] at h8;have h8:(wd.alloc (.cells #[.int .i64 0,.slice none 0 0,.slice none 0 0,.int .i64 0] 80)).heap.size<=wd.heap.size:=h8;omega
      have vk:jr ((((w5.setCell ⟨wd.heap.size,0,none⟩ (.int .i64 0)).setCell ⟨wd.heap.size,1,none⟩ (.slice A0 n0 c0)).setCell ⟨wd.heap.size,2,none⟩ (.slice A1 n1 c1)).setCell ⟨wd.heap.size,3,none⟩ (.int .i64 Y.1.end_)) wd.heap.size 0 (.slice A0 n0 c0) (.slice A1 n1 c1) Y.1.end_:=di (di (di (di fM 0 _) 1 _) 2 _) 3 _;have b9:=mX b5 (zG _) (.int .i64 0) (.slice A0 n0 c0) (.slice A1 n1 c1) (.int .i64 Y.1.end_);go_wp2_with fail;go_meet
      case rel=>(go_light;exact ⟨wd.heap.size,A0,n0,c0,A1,n1,c1,rfl,rfl,vk,(((hI0.set _ hne0).set _ hne0).set _ hne0).set _ hne0,(((hI1.set _ hne1).set _ hne1).set _ hne1).set _ hne1,b9,zG _,λ_=>hne0,λ_=>hne1,λad' e=>aN ba.size (hf0 ad' e),λad' e=>aN ba.size (hf1 ad' e),hk0,hk1⟩)
    case rest =>
     obtain ⟨g,A0,n0,c0,A1,n1,c1,rfl,rfl,hT,hI0,hI1,hbc,hgd,hn0,hn1,hu0,hu1,hk0,hk1⟩:=hcut;clear S0 uP aQ yJ hmk hAt t_ ba hbd0;cases hb:K.best x.nd x.l s x.r v with
     | none =>
      have he:Y.2=4:=by rw [HY.out,K.Qv aY.out hb]
      have hd:(Y.2 == 0)=false:=by rw [he];rfl
      have hd2:decide (Y.2=0)=false:=by rw [he];rfl
      clear he hT hI0 hI1 hn0 hn1 hu0 hu1;have hv0:n_ wc X k (none:Option K.Tr) (.pointer none):=rfl;rw [<-hb] at hv0;have uN:=zC hv0;clear hv0 hb;go_wp2_with fail;clear hd hd2;obtain ⟨wx,hwx⟩:=zB wc;rw [<-hwx] at uN hbc ⊢;have hbx:=hbc;clear hwx hbc;have hpx:=HP2.out.below hbx;have hKx:yF wx H k m:=au hbx FH.out;have hgx:=jg HG2.out hbx;have hxd:af wx wx.drew:=ai.drew;obtain ⟨w6,IA,xu,kK⟩:=(hpx.memo.below hxd).store HS.out hk6 hm (v:=.pointer none) (by rw [<-H6.out.eq];exact uN.out.ext (Ext.below hxd));have hx6:=(Ext.below hxd).trans ((hpx.memo.below hxd).ext kK);have S7:(pJ b H gb mb k m x ad s) wx:=sH.mk' hKx hpx.blk HA.out HS.out hpx.cs (Ext.refl _);have Gf:(pJ b H gb mb k m x ad s) wx.drew:=sH.mk' hKx hpx.blk HA.out HS.out hpx.cs (Ext.below hxd);have Gg:(pJ b H gb mb k m x ad s) w6:=sH.mk' hKx hpx.blk HA.out HS.out hpx.cs hx6;have PN:=zC hpx;have Pe:=zC hgx;clear hKx hpx hgx;go_wp2_with fail
      go_region_held3 (pJ b H gb mb k m x ad s)
       (with_reducible first | exact Gg | exact Gf | exact S7 | fail)
       (fail)
      clear S7 Gf Gg IA;go_wp2_with fail;go_ret;exact ⟨⟨_,rfl,uN.out.ext hx6⟩,grow_step (jg Pe.out hxd) kK (.inl rfl),(PN.out.below hxd).grown kK xu⟩
     | some bt =>
      have he:Y=(bt,0):=by rw [HY.out,K.KD aY.out hb]
      clear HY;subst he;obtain ⟨wx,hwx⟩:=zB (wc.setCell ⟨g,0,none⟩ (.int .i64 k));have hbx:af wd wx:=by rw [hwx];exact hbc.setCell hgd _
      have hv0:n_ wx X k (some bt) (.pointer (some ⟨g,0,none⟩)):=by
       rw [hwx];exact ⟨g,A0,n0,c0,A1,n1,c1,rfl,di hT 0 _,hI0.set1 _ hn0,hI1.set1 _ hn1,λhg=>P7.out g hgd hg,λ_ ad e hg=>P7.out _ (hu0 ad e) hg,λ_ ad e hg=>P7.out _ (hu1 ad e) hg,hk0,hk1⟩
      have t0:=ah hT 0 _ rfl;have tf:=b_ hT;rw [<-hb] at hv0;have uN:=zC hv0;clear hv0 hb hT hI0 hI1 hn0 hn1 hu0 hu1;go_upto_region 12 with fail;rw [<-hwx];clear hwx t0 tf hbc;have hpx:=HP2.out.below hbx;have hKx:yF wx H k m:=au hbx FH.out;have hgx:=jg HG2.out hbx;have hxd:af wx wx.drew:=ai.drew;obtain ⟨w6,IA,xu,kK⟩:=(hpx.memo.below hxd).store HS.out hk6 hm (v:=.pointer (some ⟨g,0,none⟩)) (by rw [<-H6.out.eq];exact uN.out.ext (Ext.below hxd));have hx6:=(Ext.below hxd).trans ((hpx.memo.below hxd).ext kK);have S7:(pJ b H gb mb k m x ad s) wx:=sH.mk' hKx hpx.blk HA.out HS.out hpx.cs (Ext.refl _);have Gf:(pJ b H gb mb k m x ad s) wx.drew:=sH.mk' hKx hpx.blk HA.out HS.out hpx.cs (Ext.below hxd);have Gg:(pJ b H gb mb k m x ad s) w6:=sH.mk' hKx hpx.blk HA.out HS.out hpx.cs hx6;have PN:=zC hpx;have Pe:=zC hgx;clear hKx hpx hgx;go_wp2_with fail
      go_region_held3 (pJ b H gb mb k m x ad s)
       (with_reducible first | exact Gg | exact Gf | exact S7 | fail)
       (fail)
      clear S7 Gf Gg IA;go_wp2_with fail;go_ret;exact ⟨⟨_,rfl,uN.out.ext hx6⟩,grow_step (jg Pe.out hxd) kK (.inl rfl),(PN.out.below hxd).grown kK xu⟩
   ·have hy2:=hy rfl;clear hy hn;go_wp2_with fail;go_ret;exact ⟨⟨_,rfl,hy2⟩,hg2,hp2⟩
theorem afe (w0:World) (b mb gb:Nat) (x:Cs) {X:Nat->Prop} (az:List Sh) (k:Nat) (s:S) (V:aj) (vn vc:Nat) (v:ag) (w:World) (hp:gJ w0 w b mb gb x X az) (hX:∀ g,X g->g < w.heap.size) (hs:x.ss[k]? = some s) (hV:Ints w V vn v) (jV:vn<=vc) (hvs:v.Pairwise (· < ·)) (hvb:∀ i ∈ v,0<=i/\i < (x.r.length:Int)) :
  ay 68 #[.pointer (some ⟨b,0,none⟩),.int .i64 k,.slice V vn vc] w λe w'=>aeP w0 w w' b mb gb x X az k (K.best x.nd x.l s x.r v) e :=
 (Qu w0 b mb gb x az k s V vn vc v w ⟨hp.case,hp.bw,hp.hb,hp.hm,hp.hg,hp.blk,hp.sh,hp.len,hp.ints,hp.memo,hp.ok,λg h=>⟨aW _,(hp.away g h).2⟩⟩ hX hs hV jV hvs hvb).mono λ_ _ h=>⟨h.1,h.2.1,⟨h.2.2.case,h.2.2.bw,h.2.2.hb,h.2.2.hm,h.2.2.hg,h.2.2.blk,h.2.2.sh,h.2.2.len,h.2.2.ints,h.2.2.memo,h.2.2.ok,λg e=>⟨(hp.away g e).1,(h.2.2.away g e).2⟩⟩⟩
theorem Yl (A:aj) (n c:Nat) (w:World) (hnc:n<=c) (hA:A=none->n=0/\c=0):ay 124 #[.slice A n c] w λe w'=>e=.returned (.slice A n n)/\w=w':=by
 have k0:(0:Int)<=(n:Int):=by omega
 have k1:(n:Int)<=(c:Int):=by omega
 cases A with
 | none =>
  obtain ⟨rfl,rfl⟩:=hA rfl;go_enter Tryz.func124,Tryz.ntmps124;go_wp2_with fail;go_ret;exact ⟨rfl,rfl⟩
 | some ad =>
  go_enter Tryz.func124,Tryz.ntmps124;go_wp2_with fail;go_ret;exact ⟨by simp,rfl⟩
theorem alT {ops:Array Oper} {o:Oper} {a:Act} {w w2:World} {K:Act->World->Prop} {Q:Exit->Act->World->Prop} {E:Prop} (hgd:o.guard=none) (s x:Operand)
  (ho:o.op=.call { callee:=.builtin .append,args:=#[s,x],argTypes:=#[48,48] })
  {A:aj} {n:Nat} {l:ag} (hI:Ints w2 A n l) (hA:A=none->n=0) (hs:a.eval s=.slice A n n) (g:Nat) (p:Int) (hx:a.eval x=.slice (some ⟨g,0,none⟩) 1 1)
  (hw:af w2 w) (hg:w.heap[g]? = some (.cells #[.int .i64 p] 3 (0,0))) (hn:n<=1000000)
  (h:∀ B c w',Ints w' (some B) (n + 1) (l ++ [p])->n + 1<=c->af w w'->w.heap.size<=B.block->K (a.put o.dst (.slice (some B) (n + 1) c)) w') :
  if Region.wanted o (yielded ops a.tmps)=true then Oper.wp Tryz.prog o a w K Q else E:=by
 obtain ⟨i0,hi,hz0,hz1,hz2⟩:=info_parts Tryz.info3;have Rj:=hI.below hw;refine step_append_grows hgd s x 48 ho 3 i0 (.int .i64 0) 1 8 Tryz.underlying48 hi hz0 hz1 hz2 rfl (by decide) A n n (intCells l) hs (λe=>⟨hA e,hA e⟩) (by rw [hI.1];simp [intCells]) ?_ ⟨g,0,none⟩ 1 1 [.int .i64 p] hx rfl ?_ (λu hu=>by simp at hu;subst hu;rfl) (by omega) (by simp only [maxLen];omega) (by omega) ?_
 ·intro b e j u hu;have hj:j < n:=by rw [hI.1];have:=(zE.1 hu).1;simpa [intCells] using this
  obtain ⟨ad,y,e',hy,cy⟩:=Rj.at_ hj;rw [e] at e';injection e' with e';subst e';rw [intCells,dG,hy] at hu;injection hu with hu;rw [<-hu];exact cy
 ·intro j u hu;rw [lN];exact ah hg j u (by simpa using hu)
 ·intro v' w' hown hgrow;have hown2:w'.ownsRow w.heap.size 3 1 v' (n + 1) (intCells (l ++ [p])):=by
   rw [EL];exact hown
  have hl:n + 1=(l ++ [p]).length:=by rw [cZ,hI.1];rfl
  have hb:af w w':=⟨hgrow.os,hgrow.tape,hgrow.output,hgrow.size,λk hk=>hgrow.block k hk (λe=>by cases e)⟩;obtain ⟨A',c',e',hI'⟩:=o_ hown2 hl;obtain ⟨-,⟨e,e0⟩ | ⟨g',cap,cur,e,hb',hh,hnc,-⟩⟩:=hown2
  ·omega
  ·rw [e] at e';injection e' with e1 e2 e3;subst e1 e3;rw [e];exact h _ _ w' hI' hnc hb hb'
theorem pI.xJ {w:World} {gb:Nat} {az:List Sh} (h:pI w gb az) {A:aj} {n:Nat} {l:ag} (hI:Ints w A n l):0 < n->∀ ad,A=some ad->ad.block ≠ gb:=by
 intro h0 ad e hb;obtain ⟨ad',y,e',-,hc⟩:=hI.at_ h0;rw [e] at e';injection e' with e';subst e';unfold World.cell? at hc;have hb2:(ad.add 0).block=gb:=hb;rw [hb2,h] at hc;by_cases hsp:(ad.add 0).spot.isSome=true
 ·simp [hsp] at hc
 ·simp only [hsp,List.getElem?_toArray,dG] at hc;cases hs:az[(ad.add 0).off]? with
  | none=>simp [hs] at hc
  | some s=>simp [hs,Sh.val] at hc
theorem n_.adS {w:World} {gb:Nat} {az:List Sh} (h:pI w gb az) {X:Nat->Prop} {k:Int} {t:Option K.Tr} {v:Value} (ht:n_ w X k t v) (i:Nat) (u:Value):n_ (w.setCell ⟨gb,i,none⟩ u) X k t v:=by
 cases t with
 | none=>exact ht
 | some t =>
  obtain ⟨g,A,n,c,A',n',c',h1,h2,h3,h4,h5⟩:=ht;have hne:g ≠ gb:=λe=>by
   subst e;unfold pI at h;unfold jr at h2;rw [h2] at h;injection h with h;injection h with h5 h6;cases h6
  exact ⟨g,A,n,c,A',n',c',h1,(iG w _ _ g (λe=>hne e)).trans h2,h3.set1 _ (h.xJ h3),h4.set1 _ (h.xJ h4),h5⟩
theorem gJ.store {w0 w:World} {b mb gb:Nat} {x:Cs} {az:List Sh} (h:gJ w0 w b mb gb x JW az) (s:Nat) (u:Sh) (hu:Ints w u.A u.n u.l/\u.n<=u.c):gJ w0 (w.setCell ⟨gb,s,none⟩ u.val) b mb gb x JW (az.set s u):=by
 have hbne:b ≠ gb:=λe=>by
  have h1:=h.blk;have h2:=h.sh;subst e;unfold yI at h1;unfold pI at h2;rw [h1] at h2;injection h2 with h2;injection h2 with h3 h4;cases h4
 obtain ⟨es,clock,hm,hes⟩:=h.memo;have TK:mb ≠ gb:=λe=>by
  have h2:=h.sh;subst e;unfold pI at h2;rw [hm] at h2;injection h2 with h2;cases h2
 refine ⟨h.case,h.bw.setCell h.hg _,h.hb,h.hm,h.hg,(iG w _ _ b (λe=>hbne e)).trans h.blk,?_,by rw [List.length_set];exact h.len,λt ht=>?_,⟨es,clock,(iG w _ _ mb (λe=>TK e)).trans hm,λe he=>?_⟩,h.ok,λg hg=>hg.elim⟩
 ·have:=di h.sh s u.val;unfold pI;rw [this];simp [List.map_set]
 ·rcases List.mem_or_eq_of_mem_set ht with ht | rfl
  ·exact ⟨(h.ints t ht).1.set1 _ (h.sh.xJ (h.ints t ht).1),(h.ints t ht).2⟩
  ·exact ⟨hu.1.set1 _ (h.sh.xJ hu.1),hu.2⟩
 ·obtain ⟨k,s',m,g1,g2,g3,g4,g5⟩:=hes e he;exact ⟨k,s',m,g1,g2,g3,g4,g5.adS h.sh _ _⟩
theorem jD.trans {w w1 w2:World} {mb g:Nat} (h:jD w w1 mb g) (h2:jD w1 w2 mb g):jD w w2 mb g :=
 ⟨h2.os.trans h.os,h2.tape.trans h.tape,h2.output.trans h.output,aN h.size h2.size,λk hk a c=>(h2.block k (dO hk h.size) a c).trans (h.block k hk a c)⟩
theorem jD.refl (w:World) (mb g:Nat):jD w w mb g:=⟨rfl,rfl,rfl,zG _,λ_ _ _ _=>rfl⟩
theorem jD.below {w w1 w2:World} {mb g:Nat} (h:jD w w1 mb g) (h2:af w1 w2):jD w w2 mb g :=
 h.trans ⟨h2.os,h2.tape,h2.output,h2.size,λk hk _ _=>h2.block k hk⟩
theorem Ints.afH {w w':World} {A:aj} {n mb gb:Nat} {l:ag} (h:Ints w A n l) (hb:jD w w' mb gb) (hg:0 < n->∀ ad,A=some ad->ad.block ≠ gb) {es:Array MapEntry} {clock:Nat} (hm:w.heap[mb]? = some (.map es clock)):Ints w' A n l:=by
 refine ⟨h.1,h.2.1,λh0=>?_⟩;obtain ⟨ad,e,hc⟩:=h.2.2 h0;refine ⟨ad,e,λj u hu=>?_⟩;have c:=hc j u hu;have hlt:=cell_lt c;refine (lg (hb.block _ hlt (λe2=>?_) (by rw [add_block];exact hg h0 ad e))).trans c;unfold World.cell? at c;rw [e2,hm] at c;simp at c
def Grown (az:List Sh) (i:Nat):Prop:=∀ s ∈ az,s.l.Pairwise (· < ·)/\(∀ y ∈ s.l,0<=y/\y < (i:Int))/\(s.A=none->s.n=0/\s.c=0)
theorem Grown.give {az:List Sh} {i:Nat} (h:Grown az i) {k:Nat} {s:Sh} (hs:az[k]? = some s) (B:Addr) (n c:Nat):Grown (az.set k ⟨some B,n,c,s.l ++ [(i:Int)]⟩) (i + 1):=by
 intro t ht;rcases List.mem_or_eq_of_mem_set ht with ht | rfl
 ·exact ⟨(h t ht).1,λy hy=>by have:=(h t ht).2.1 y hy;omega,(h t ht).2.2⟩
 ·obtain ⟨h1,h2,-⟩:=h s (zD hs);refine ⟨List.pairwise_append.2 ⟨h1,List.pairwise_singleton _ _,λa ha b hb=>?_⟩,λy hy=>?_,λe=>(nomatch e)⟩
  ·rw [dB] at hb;have:=h2 a ha;omega
  ·rcases dX.1 hy with hy | hy
   ·have:=h2 y hy;omega
   ·rw [dB] at hy;omega
def am5 (w0 w w':World) (b mb gb:Nat) (x:Cs) (az:List Sh) (o:Option (List (List Int))) (e:Ending):Prop :=
 (∃ x9,gJ w0 w' b mb gb x JW x9/\((o=none/\e=.returned (.bool false)/\x9=az)\/∃ fin,o=some fin/\e=.returned (.bool true)/\x9.map Sh.l=fin))/\jD w w' mb gb
theorem adQ {α:Type} {l:List α} {k:Nat} {a:α} (h:l[k]? = some a):l.set k a=l:=by
 apply List.ext_getElem?;intro j;rw [List.getElem?_set];by_cases e:k=j
 ·subst e;rw [if_pos rfl,h,if_pos (zE.1 h).1]
 ·rw [if_neg e]
namespace A
theorem NW {m s:Nat} (h:s < m):(List.range m).drop s=s :: (List.range m).drop (s + 1):=by
 rw [jE (by rw [List.length_range];exact h),List.getElem_range]
theorem YX {B:Nat->List Int->Bool} {rec:List (List Int)->Option (List (List Int))} {i:Int} {sh:List (List Int)} {m s:Nat} (hs:s < m) (h:B s ((sh[s]?).getD [] ++ [i])=false\/rec (give sh s i)=none) :
  assign.go B rec i sh ((List.range m).drop s)=assign.go B rec i sh ((List.range m).drop (s + 1)):=by
 rw [NW hs,assign.go];rcases h with h | h
 ·rw [h];rfl
 ·rw [h];split <;> rfl
theorem agT {B:Nat->List Int->Bool} {rec:List (List Int)->Option (List (List Int))} {i:Int} {sh fin:List (List Int)} {m s:Nat} (hs:s < m) (h:B s ((sh[s]?).getD [] ++ [i])=true) (h2:rec (give sh s i)=some fin) :
  assign.go B rec i sh ((List.range m).drop s)=some fin:=by
 rw [NW hs,assign.go,if_pos h,h2]
end A
def TV.cells (y:TV):List Value:=[.int .i64 y.sh,.slice y.A y.n y.c,.slice y.A' y.n' y.c',.int .i64 y.t.end_]
def ja (w:World) (A:aj) (n:Nat) (l:List TV):Prop:=aX TV.cells 4 w A n l/\∀ y ∈ l,Ints w y.A y.n y.t.stops/\Ints w y.A' y.n' y.t.times
theorem ja.below {w w':World} {A:aj} {n:Nat} {l:List TV} (h:ja w A n l) (hb:af w w'):ja w' A n l:=⟨aX.below h.1 hb,λs hs=>⟨(h.2 s hs).1.below hb,(h.2 s hs).2.below hb⟩⟩
theorem ja.at_ {w:World} {A:aj} {n k:Nat} {l:List TV} (h:ja w A n l) (hk:k < n) :
  ∃ ad y,A=some ad/\l[k]? = some y/\(Ints w y.A y.n y.t.stops/\Ints w y.A' y.n' y.t.times)/\w.cell? (ad.add (k * 4))=some (.int .i64 y.sh)/\w.cell? ⟨(ad.add (k * 4)).block,(ad.add (k * 4)).off + 1,none⟩=some (.slice y.A y.n y.c) /\
   w.cell? ⟨(ad.add (k * 4)).block,(ad.add (k * 4)).off + 2,none⟩=some (.slice y.A' y.n' y.c')/\w.cell? ⟨(ad.add (k * 4)).block,(ad.add (k * 4)).off + 3,none⟩=some (.int .i64 y.t.end_):=by
 obtain ⟨ad,s,hA,hl,hc⟩:=aX.get (f:=TV.cells) (s:=4) (λ_=>rfl) h.1 hk;refine ⟨ad,s,hA,hl,h.2 s (zD hl),hc 0 _ (by omega) rfl,?_,?_,?_⟩ <;> rw [<-pO _ _ _ (by omega)]
 ·exact hc 1 _ (by omega) rfl
 ·exact hc 2 _ (by omega) rfl
 ·exact hc 3 _ (by omega) rfl
theorem Tryz.info80:(Tryz.prog.info? 80).map (λi=>(i.zero,i.size,i.bytes))=some (some (.agg #[.int .i64 0,.slice none 0 0,.slice none 0 0,.int .i64 0]),4,64):=by kernel_rfl
theorem Qk {ops:Array Oper} {rest:List Oper} {o:Oper} {a:Act} {Q:Exit->Act->World->Prop} {w:World} (hgd:o.guard=none) (s x:Operand)
  (ho:o.op=.call { callee:=.builtin .append,args:=#[s,x],argTypes:=#[27,27] })
  (base:Nat) (v:Value) (n:Nat) (l:List TV) (hs:a.eval s=v) (hown:w.ownsRow base 80 4 v n (l.flatMap TV.cells)) (g:Nat) (y:TV) (hx:a.eval x=.slice (some ⟨g,0,none⟩) 1 1)
  (hg:w.heap[g]? = some (.cells #[.int .i64 y.sh,.slice y.A y.n y.c,.slice y.A' y.n' y.c',.int .i64 y.t.end_] 80 (0,0))) (hn:n<=1000000) (hbase:base<=w.heap.size)
  (h:∀ v' w',w'.ownsRow base 80 4 v' (n + 1) ((l ++ [y]).flatMap TV.cells)->w.grownBy w' v.ownBlock->(v'.ownBlock=v.ownBlock\/v'.ownBlock=some w.heap.size)->wpList Tryz.prog ops Q rest (a.put o.dst v') w') :
  wpList Tryz.prog ops Q (o :: rest) a w:=by
 obtain ⟨i0,hi,hz0,hz1,hz2⟩:=info_parts Tryz.info80;refine wpList_append_own_at w hgd s x 27 ho base 80 i0 (.agg #[.int .i64 0,.slice none 0 0,.slice none 0 0,.int .i64 0]) 4 64 Tryz.underlying27 hi hz0 hz1 hz2 rfl (by decide) v n (l.flatMap TV.cells) hs hown ⟨g,0,none⟩ 1 1 y.cells hx rfl ?_ ?_ ?_ ?_ hbase ?_
 ·intro j u hu;rw [lN];exact ah hg j u (by simpa [TV.cells] using hu)
 ·intro u hu;simp [TV.cells] at hu;rcases hu with rfl | rfl | rfl | rfl <;> rfl
 ·simp only [maxLen];omega
 ·omega
 ·intro v' w' h2 h3 _ h5;exact h v' w' (by rw [List.flatMap_append];simpa using h2) h3 h5
theorem Ints.grow {w w':World} {A:aj} {n:Nat} {l:ag} {r:Option Nat} (h:Ints w A n l) (hg:w.grownBy w' r) (hne:0 < n->∀ ad,A=some ad->some ad.block ≠ r):Ints w' A n l:=by
 refine ⟨h.1,h.2.1,λh0=>?_⟩;obtain ⟨ad,e,hc⟩:=h.2.2 h0;refine ⟨ad,e,λj u hu=>?_⟩;have c:=hc j u hu;exact (lg (hg.block _ (cell_lt c) (by rw [add_block];exact hne h0 ad e))).trans c
theorem gJ.turn {w0 w:World} {b mb gb:Nat} {x:Cs} {X Y:Nat->Prop} {az:List Sh} (h:gJ w0 w b mb gb x X az) (hY:∀ g,Y g->X g\/w.heap.size<=g):gJ w0 w b mb gb x Y az:=by
 refine ⟨h.case,h.bw,h.hb,h.hm,h.hg,h.blk,h.sh,h.len,h.ints,h.memo.more λg hg hy=>(hY g hy).resolve_right (by omega),h.ok,λg hy=>?_⟩;rcases hY g hy with hx | hs
 ·exact h.away g hx
 ·have h1:=lt_of_block h.blk;have h2:=lt_of_block h.sh;obtain ⟨es,clock,hm,-⟩:=h.memo;have h3:=(l_.1 hm).1;have h4:=h.bw.size;refine ⟨by omega,by omega,by omega,by omega,λs hs' h0 ad e=>?_⟩;have:=(h.ints s hs').1.nD h0 e;omega
theorem gJ.own {w0 w w':World} {b mb gb:Nat} {x:Cs} {X:Nat->Prop} {az:List Sh} {r:Option Nat} (h:gJ w0 w b mb gb x X az) (hg:w.grownBy w' r) (hr:∀ g,r=some g->X g):gJ w0 w' b mb gb x X az:=by
 have hb:∀ g,g < w.heap.size->(∀ k,r=some k->g ≠ k)->w'.heap[g]? = w.heap[g]?:=λg hl hne=>hg.block g hl (λe=>hne g e.symm rfl);obtain ⟨es,clock,hm,hes⟩:=h.memo;refine ⟨h.case,dY h.bw hg (λg e=>(h.away g (hr g e)).1),h.hb,h.hm,h.hg,(hb b (lt_of_block h.blk) λk e=>((h.away k (hr k e)).2.1).symm).trans h.blk,(hb gb (lt_of_block h.sh) λk e=>((h.away k (hr k e)).2.2.2.1).symm).trans h.sh,h.len,λs hs=>⟨(h.ints s hs).1.grow hg λh0 ad e e2=>(h.away _ (hr _ e2.symm)).2.2.2.2 s hs h0 ad e rfl,(h.ints s hs).2⟩,
  ⟨es,clock,(hb mb (l_.1 hm).1 λk e=>((h.away k (hr k e)).2.2.1).symm).trans hm,λe he=>?_⟩,h.ok,h.away⟩
 obtain ⟨k,s,m,h1,h2,h3,h4,h5⟩:=hes e he;refine ⟨k,s,m,h1,h2,h3,h4,?_⟩;cases hbt:K.best x.nd x.l s x.r (K.part (K.iota 6) m) with
 | none=>rw [hbt] at h5;exact h5
 | some t =>
  rw [hbt] at h5;obtain ⟨g,A,n,c,A',n',c',g1,g2,g3,g4,g5,g6,g7⟩:=h5;exact ⟨g,A,n,c,A',n',c',g1,iV hg g2 (λe=>g5 (hr g e.symm)),g3.grow hg (λh0 ad e e2=>g6 h0 ad e (hr _ e2.symm)),g4.grow hg (λh0 ad e e2=>g7.1 h0 ad e (hr _ e2.symm)),g5,g6,g7⟩
namespace K
def vX (nd:Int) (l:List Ro) (ss:List S) (r:List Q) (d:List Nat) (s:Nat):Option (Nat × Tr):=if (A.share d s 0).isEmpty then none else match ss[s]? with
  | none=>none
  | some x=>(best nd l x r (A.share d s 0)).map λt=>(s,t)
theorem ame (nd:Int) (l:List Ro) (ss:List S) (r:List Q) (d:List Nat):vY nd l ss r d=(List.range ss.length).filterMap (vX nd l ss r d):=rfl
theorem aej {α:Type} {f:Nat->Option α} {s:Nat} (h:f s=none):(List.range (s + 1)).filterMap f=(List.range s).filterMap f:=by
 rw [List.range_succ,List.filterMap_append,List.filterMap_cons,h];simp
theorem aek {α:Type} {f:Nat->Option α} {s:Nat} {a:α} (h:f s=some a):(List.range (s + 1)).filterMap f=(List.range s).filterMap f ++ [a]:=by
 rw [List.range_succ,List.filterMap_append,List.filterMap_cons,h];simp
end K
def TV.pr (y:TV):Int × K.Tr:=(y.sh,y.t)
def Xi (w w':World) (p:List (Nat × K.Tr) × Int) (e:Ending):Prop :=
 (∃ A n c l,e=.returned (.tuple #[.slice A n c,.int .i64 p.2])/\ja w' A n l/\n<=c/\l.map TV.pr=p.1.map (λt=>((t.1:Int),t.2)))/\af w w'
theorem anO {w w':World} {p:List (Nat × K.Tr) × Int} {er:Int} (h:p=([],er)) (hb:af w w'):Xi w w' p (.returned (.tuple #[.slice none 0 0,.int .i64 er])):=by
 subst h;exact ⟨⟨none,0,0,[],rfl,⟨⟨rfl,rfl,λh=>absurd h (by omega)⟩,λy h=>by cases h⟩,zG _,rfl⟩,hb⟩
theorem iE.store {w0 w:World} {b mb gb:Nat} {x:Cs} {X:Nat->Prop} {az:List Sh} (h:iE w0 w b mb gb x X az) (s:Nat) (u:Sh) (hu:Ints w u.A u.n u.l/\u.n<=u.c) (hu2:∀ g,X g->0 < u.n->∀ ad,u.A=some ad->ad.block ≠ g):iE w0 (w.setCell ⟨gb,s,none⟩ u.val) b mb gb x X (az.set s u):=by
 have hbne:b ≠ gb:=λe=>by
  have h1:=h.blk;have h2:=h.sh;subst e;unfold yI at h1;unfold pI at h2;rw [h1] at h2;injection h2 with h2;injection h2 with h3 h4;cases h4
 obtain ⟨es,clock,hm,hes⟩:=h.memo;have TK:mb ≠ gb:=λe=>by
  have h2:=h.sh;subst e;unfold pI at h2;rw [hm] at h2;injection h2 with h2;cases h2
 refine ⟨h.case,h.bw.setCell h.hg _,h.hb,h.hm,h.hg,(iG w _ _ b (λe=>hbne e)).trans h.blk,?_,by rw [List.length_set];exact h.len,λt ht=>?_,⟨es,clock,(iG w _ _ mb (λe=>TK e)).trans hm,λe he=>?_⟩,h.ok,λg hg=>?_⟩
 ·have:=di h.sh s u.val;unfold pI;rw [this];simp [List.map_set]
 ·rcases List.mem_or_eq_of_mem_set ht with ht | rfl
  ·exact ⟨(h.ints t ht).1.set1 _ (h.sh.xJ (h.ints t ht).1),(h.ints t ht).2⟩
  ·exact ⟨hu.1.set1 _ (h.sh.xJ hu.1),hu.2⟩
 ·obtain ⟨k,s',m,g1,g2,g3,g4,g5⟩:=hes e he;exact ⟨k,s',m,g1,g2,g3,g4,g5.adS h.sh _ _⟩
 ·obtain ⟨a1,a2,a3,a4,a5⟩:=h.away g hg;refine ⟨a1,a2,a3,a4,λt ht=>?_⟩;rcases List.mem_or_eq_of_mem_set ht with ht | rfl
  ·exact a5 t ht
  ·exact hu2 g hg
def aeH (w0 w w':World) (b mb gb:Nat) (x:Cs) (X:Nat->Prop) (az:List Sh) (o:Option (List (List Int))) (e:Ending):Prop :=
 (∃ x9,iE w0 w' b mb gb x X x9/\((o=none/\e=.returned (.bool false)/\x9=az)\/∃ fin,o=some fin/\e=.returned (.bool true)/\x9.map Sh.l=fin))/\jD w w' mb gb
theorem ae7 (w0:World) (b mb gb:Nat) (x:Cs) {X:Nat->Prop} (wX:Nat) (hX:∀ g,X g->g < wX):∀ (k i:Nat) (az:List Sh) (w:World),i + k=x.m->wX<=w.heap.size->iE w0 w b mb gb x X az->Grown az i ->
  ay 67 #[.pointer (some ⟨b,0,none⟩),.int .i64 i] w λe w'=>aeH w0 w w' b mb gb x X az (A.assign (K.eH x.nd x.l x.ss x.r) x.sn k i (az.map Sh.l)) e:=by
 intro k;induction k with
 | zero =>
  intro i az w hi MX hp hgr;have c0:=ah hp.blk 0 _ rfl;have c2:=ah hp.blk 2 _ rfl;have c3:=ah hp.blk 3 _ rfl;have hd:decide ((i:Int)=(x.m:Int))=true:=by simp;omega
  have hd2:((i:Int) == (x.m:Int))=true:=by simp;omega
  have hd3:decide (i=x.m)=true:=by simp;omega
  have hd4:(i == x.m)=true:=by simp;omega
  have hdi:i=x.m:=by omega
  go_enter Tryz.func67,Tryz.ntmps67;go_wp2_with fail;go_ret;exact ⟨⟨az,hp,.inr ⟨_,rfl,rfl,rfl⟩⟩,jD.refl _ _ _⟩
 | succ k ih =>
  intro i az w hi MX hp hgr;have HP:=zC hp;have JG:=zC hgr;have c0:=ah hp.blk 0 _ rfl;have c2:=ah hp.blk 2 _ rfl;have c3:=ah hp.blk 3 _ rfl;have hd:decide ((i:Int)=(x.m:Int))=false:=by simp;omega
  have hd2:((i:Int) == (x.m:Int))=false:=by simp;omega
  have hd3:decide (i=x.m)=false:=by simp;omega
  have hd4:(i == x.m)=false:=by simp;omega
  obtain ⟨h1,h2,h3,h4,h5⟩:=K.kT hp.ok;have o6:x.m<=6:=by rw [hp.case.bf.1];exact h5
  have uw:x.sn<=4:=by rw [hp.case.shifts.1.1];exact h2
  have eF:=zC hp.case.shifts.1.1;have aS:=zC hp.case.bf.1;have HLEN:=zC hp.len;clear h1 h2 h3 h4 h5 hp hgr;go_enter Tryz.func67,Tryz.ntmps67;go_wp2_with fail;clear c0 c2 c3 hd hd2 hd3 hd4;obtain ⟨o,ho⟩:=zB (A.assign (K.eH x.nd x.l x.ss x.r) x.sn (k + 1) i (az.map Sh.l));have HO:=zC ho;clear ho;go_loopw [19] (λv19 wr=>∃ s:Nat,v19=.int .i64 s/\s<=x.sn/\iE w0 wr b mb gb x X az/\jD w wr mb gb/\Hid (o=A.assign.go (K.eH x.nd x.l x.ss x.r) (A.assign (K.eH x.nd x.l x.ss x.r) x.sn k (i + 1)) i (az.map Sh.l) ((List.range x.sn).drop s))) (λv19 _=>x.sn - (intOf v19).toNat)
  case atStart=>exact ⟨0,rfl,aW _,HP.out,jD.refl _ _ _,HO.out⟩
  case round =>
   obtain ⟨s,rfl,hs,hpr,hbr,hor⟩:=hrel;by_cases hlt:s < x.sn
   ·obtain ⟨sh,hsh⟩:∃ sh,az[s]? = some sh:=⟨_,zF (by rw [HLEN.out];exact hlt)⟩;have hget:((az.map Sh.l)[s]?).getD [] = sh.l:=by rw [dG,hsh];rfl
    obtain ⟨hI,hnc⟩:=hpr.ints sh (zD hsh);obtain ⟨hso,hbd,hAn⟩:=JG.out sh (zD hsh);have nP:sh.n<=6:=by
     obtain ⟨m6,h6⟩:=K.Jj hso λy hy=>by have:=hbd y hy;omega
     rw [hI.1];exact h6.len
    have Py:=zC hnc;have c4:=ah hpr.blk 4 _ rfl;have c5:wr.cell? ⟨gb,s,none⟩=some (.slice sh.A sh.n sh.c):=ah hpr.sh s _ (by simp [hsh,Sh.val]);have qo:=zC hsh;have HSO:=zC hso;have ww:=zC hbd;have JF:=zC hget;have nH:=zC hpr;have HBR:=zC hbr;have HXW:=zC (show ∀ g,X g->g < wr.heap.size from λg hg=>dO (hX g hg) (aN MX hbr.size));obtain ⟨k0,k1⟩:=zJ (a:=s) (b:=x.sn) (by omega);clear hpr hbr hso hbd hget hsh;go_upto_region 7 with fail;have HI:=zC hI;have hA0:sh.A=none->sh.n=0:=λe=>(hAn e).1;have zq:af wr (wr.alloc (.cells #[.int .i64 (i:Int)] 3)).drew:=(ai.alloc (zG _) _).drew;have lD:af wr wr.drew:=ai.drew;have S0:(λw':World=>w'.cell? ⟨b,4,none⟩=some (.slice (some ⟨gb,0,none⟩) x.sn x.sn)) wr:=c4;have aQ:(λw':World=>w'.cell? ⟨b,4,none⟩=some (.slice (some ⟨gb,0,none⟩) x.sn x.sn)) wr.drew:=ah (nH.out.below lD).blk 4 _ rfl;have Xp:(λw':World=>w'.cell? ⟨b,4,none⟩=some (.slice (some ⟨gb,0,none⟩) x.sn x.sn)) (wr.alloc (.cells #[.int .i64 (i:Int)] 3)).drew:=ah (nH.out.below zq).blk 4 _ rfl;have Ez:sh.n<=1000000:=by omega
    have hkc:=Py.out;clear hI hnc c4 c5;go_cut [38] from 29 to 39 (λv38 wa=>∃ B c9,v38=.slice (some B) (sh.n + 1) c9/\sh.n + 1<=c9/\iE w0 wa b mb gb x X (az.set s ⟨some B,sh.n + 1,c9,sh.l ++ [(i:Int)]⟩)/\Ints wa (some B) (sh.n + 1) (sh.l ++ [(i:Int)])/\Ints wa sh.A sh.n sh.l/\jD w wa mb gb)
    case first =>
     go_region_held3 (λw':World=>w'.cell? ⟨b,4,none⟩=some (.slice (some ⟨gb,0,none⟩) x.sn x.sn))
      (with_reducible first | exact AU | exact S9 | exact Xp | exact aQ | exact S0 | fail)
      (first
       | (go_at_call 124;refine (Yl sh.A sh.n sh.c _ hkc hAn).mono ?_;rintro e w9 ⟨rfl,rfl⟩)
       | (refine alT rfl (.tmp 35) (.tmp 37) rfl HI.out hA0 rfl wr.heap.size (i:Int) rfl zq (aA wr _) Ez ?_;intro B c9 w9 jI lV ji nK;have ED:=nH.out.below (bel zq ji);have S9:w9.cell? ⟨b,4,none⟩=some (.slice (some ⟨gb,0,none⟩) x.sn x.sn):=ah ED.blk 4 _ rfl;have c59:w9.cell? ⟨gb,s,none⟩=some (.slice sh.A sh.n sh.c):=ah ED.sh s _ (by simp [qo.out,Sh.val]);have f59:=b_ ED.sh;have aaI:=ED.store s ⟨some B,sh.n + 1,c9,sh.l ++ [(i:Int)]⟩ ⟨jI,lV⟩ (λg hg _ ad e e2=>by have h1:=HXW.out g hg;have h2:=zq.size;(injection e with e);rw [e] at nK;omega);have AU:(w9.setCell ⟨gb,s,none⟩ (.slice (some B) (sh.n + 1) c9)).cell? ⟨b,4,none⟩=some (.slice (some ⟨gb,0,none⟩) x.sn x.sn):=ah aaI.blk 4 _ rfl)
       | fail)
     all_goals
      have hr1:=jI.set1 (i:=s) (.slice (some B) (sh.n + 1) c9) (ED.sh.xJ jI);have hr2:=(HI.out.below (bel zq ji)).set1 (i:=s) (.slice (some B) (sh.n + 1) c9) (ED.sh.xJ (HI.out.below (bel zq ji)));have hr3:=(HBR.out.below (bel zq ji)).set s (.slice (some B) (sh.n + 1) c9);go_wp2_with fail;go_meet;exact ⟨B,c9,rfl,lV,aaI,hr1,hr2,hr3⟩
    case rest =>
     obtain ⟨B,c9,rfl,lV,hpa,Rf,BD,hba⟩:=hcut;obtain ⟨u,hu⟩:∃ u:Sh,u=⟨some B,sh.n + 1,c9,sh.l ++ [(i:Int)]⟩:=⟨_,rfl⟩;rw [<-hu] at hpa;obtain ⟨wa,qf⟩:=zB wc;rw [<-qf] at hpa Rf BD hba;have hsl:s < az.length:=by rw [HLEN.out];exact hlt
     have qW:=zC (show (az.set s u)[s]? = some ⟨some B,sh.n + 1,c9,sh.l ++ [(i:Int)]⟩ by rw [List.getElem?_set,if_pos rfl,if_pos hsl,hu]);have hgu:Grown (az.set s u) (i + 1):=by rw [hu];exact JG.out.give qo.out B _ _
     obtain ⟨KW,YW,-⟩:=hgu _ (zD qW.out);obtain ⟨sS,hsS⟩:∃ sS,x.ss[s]? = some sS:=⟨_,zF (by rw [<-eF.out];exact hlt)⟩;have Wi:=zC (show ∀ y ∈ sh.l ++ [(i:Int)],0<=y/\y < (x.r.length:Int) from λy hy=>by have:=YW y hy;have:=aS.out;omega);have HGS:=zC (show (sh.l ++ [(i:Int)]).Pairwise (· < ·) from KW);have CB:=Qu w0 b mb gb x (az.set s u) s sS (some B) (sh.n + 1) c9 (sh.l ++ [(i:Int)]) wa hpa (λg hg=>dO (hX g hg) (aN MX hba.size)) hsS Rf lV KW Wi.out;have hfe:K.eH x.nd x.l x.ss x.r s (((az.map Sh.l)[s]?).getD [] ++ [(i:Int)])=(K.best x.nd x.l sS x.r (sh.l ++ [(i:Int)])).isSome:=by
      rw [JF.out,Bool.eq_iff_iff,K.Gy hpa.ok KW Wi.out,Option.isSome_iff_exists];exact ⟨λ⟨s2,t,e1,e2⟩=>by rw [hsS] at e1;injection e1 with e1;subst e1;exact ⟨t,e2⟩,λ⟨t,e2⟩=>⟨sS,t,hsS,e2⟩⟩
     have hgv:(az.set s u).map Sh.l=A.give (az.map Sh.l) s i:=by
      unfold A.give;rw [JF.out,List.map_set,hu]
     obtain ⟨T,hT⟩:=zB (K.best x.nd x.l sS x.r (sh.l ++ [(i:Int)]));rw [<-hT] at CB hfe;have Aq:=zC hfe;have HGV:=zC hgv;have HGU:=zC hgu;have c4a:=ah hpa.blk 4 _ rfl;have c5a:wa.cell? ⟨gb,s,none⟩=some (.slice (some B) (sh.n + 1) c9):=ah hpa.sh s _ (by rw [List.getElem?_toArray,dG,qW.out];rfl);have PI:=zC hor.out;rw [<-qf];clear hgu KW YW hfe hgv hT hsS qf S0 aQ Xp zq lD hu hor hA0 hkc hAn;go_wp2_with fail;refine CB.mono ?_;rintro e wb ⟨⟨u',rfl,hTA⟩,hgb,hpb⟩;have Eb:=BD.ext (hpa.memo.ext hgb);have hbb:=hba.trans (jD.of hgb);clear CB c4a c5a hpa Rf hba BD;cases T with
     | none =>
      obtain rfl:u'=.pointer none:=hTA;have bH:=zC (show o=A.assign.go (K.eH x.nd x.l x.ss x.r) (A.assign (K.eH x.nd x.l x.ss x.r) x.sn k (i + 1)) i (az.map Sh.l) ((List.range x.sn).drop (s + 1)) from PI.out.trans (A.YX hlt (.inl Aq.out)));have c4c:=ah hpb.blk 4 _ rfl;have c5c:wb.cell? ⟨gb,s,none⟩=some (.slice (some B) (sh.n + 1) c9):=ah hpb.sh s _ (by rw [List.getElem?_toArray,dG,qW.out];rfl);have f5c:=b_ hpb.sh;have nS:=hpb.store s sh ⟨Eb,Py.out⟩ (λg hg h0 ad e=>(nH.out.away g hg).2.2.2.2 sh (zD qo.out) h0 ad e);rw [List.set_set,adQ qo.out] at nS;have hbd:=hbb.set s sh.val;go_wp2_with fail;go_roundw
      case rel=>(go_light;exact ⟨s + 1,by go_num,hlt,nS,hbd,bH.out⟩)
      case measure=>(go_light;simp [intOf];omega)
     | some bt =>
      obtain ⟨g,A8,n8,c8,A7,n7,c7,rfl,-⟩:=hTA;obtain ⟨ii,hii⟩:=zB (i + 1);have kw:IntKind.i64.wrap ((i:Int) + 1)=(ii:Int):=by rw [dh _ (by omega)];omega
      have CI:=ih ii (az.set s u) wb (by omega) (aN MX hbb.size) hpb (by rw [hii];exact HGU.out);rw [HGV.out] at CI;obtain ⟨O,hO⟩:=zB (A.assign (K.eH x.nd x.l x.ss x.r) x.sn k ii (A.give (az.map Sh.l) s i));rw [<-hO] at CI;have JM:=zC (show A.assign (K.eH x.nd x.l x.ss x.r) x.sn k (i + 1) (A.give (az.map Sh.l) s i)=O by rw [hO,hii];simp);obtain ⟨es,clock,hmw,-⟩:=hpb.memo;have hgn:=hpb.sh.xJ Eb;clear hO hii;go_wp2_with fail;refine CI.mono ?_;rintro e wc ⟨⟨x9,hpc,hres⟩,hbc⟩;have Rh:=Eb.afH hbc hgn hmw;have hbw:=hbb.trans hbc;clear CI hmw hgn hpb Eb hbb hbc kw;rcases hres with ⟨h1,rfl,rfl⟩ | ⟨fin,h1,rfl,h2⟩
      ·have bH:=zC (show o=A.assign.go (K.eH x.nd x.l x.ss x.r) (A.assign (K.eH x.nd x.l x.ss x.r) x.sn k (i + 1)) i (az.map Sh.l) ((List.range x.sn).drop (s + 1)) from PI.out.trans (A.YX hlt (.inr (JM.out.trans h1))));clear h1;have c4c:=ah hpc.blk 4 _ rfl;have c5c:wc.cell? ⟨gb,s,none⟩=some (.slice (some B) (sh.n + 1) c9):=ah hpc.sh s _ (by rw [List.getElem?_toArray,dG,qW.out];rfl);have f5c:=b_ hpc.sh;have nS:=hpc.store s sh ⟨Rh,Py.out⟩ (λg hg h0 ad e=>(nH.out.away g hg).2.2.2.2 sh (zD qo.out) h0 ad e);rw [List.set_set,adQ qo.out] at nS;have hbd:=hbw.set s sh.val;go_wp2_with fail;go_roundw
       case rel=>(go_light;exact ⟨s + 1,by go_num,hlt,nS,hbd,bH.out⟩)
       case measure=>(go_light;simp [intOf];omega)
      ·have O_:=zC (show o=some fin from PI.out.trans (A.agT hlt Aq.out (JM.out.trans h1)));clear h1;go_wp2_with fail;go_ret;exact ⟨⟨x9,hpc,.inr ⟨fin,HO.out ▸ O_.out,rfl,h2⟩⟩,hbw⟩
   ·have O_:=zC (show o=none by rw [hor.out,dF (by rw [List.length_range];omega)];rfl);clear hor;go_wp2_with fail;go_ret;exact ⟨⟨az,hpr,.inl ⟨HO.out ▸ O_.out,rfl,rfl⟩⟩,hbr⟩
theorem iE.turn {w0 w:World} {b mb gb:Nat} {x:Cs} {X Y:Nat->Prop} {az:List Sh} (h:iE w0 w b mb gb x X az) (hY:∀ g,Y g->X g\/w.heap.size<=g):iE w0 w b mb gb x Y az:=by
 refine ⟨h.case,h.bw,h.hb,h.hm,h.hg,h.blk,h.sh,h.len,h.ints,h.memo.more λg hg hy=>(hY g hy).resolve_right (by omega),h.ok,λg hy=>?_⟩;rcases hY g hy with hx | hs
 ·exact h.away g hx
 ·have h1:=lt_of_block h.blk;have h2:=lt_of_block h.sh;obtain ⟨es,clock,hm,-⟩:=h.memo;have h3:=(l_.1 hm).1;have h4:=h.bw.size;refine ⟨by omega,by omega,by omega,by omega,λs hs' h0 ad e=>?_⟩;have:=(h.ints s hs').1.nD h0 e;omega
theorem iE.own {w0 w w':World} {b mb gb:Nat} {x:Cs} {X:Nat->Prop} {az:List Sh} {r:Option Nat} (h:iE w0 w b mb gb x X az) (hg:w.grownBy w' r) (hr:∀ g,r=some g->X g) (hr2:∀ g,r=some g->w0.heap.size<=g):iE w0 w' b mb gb x X az:=by
 have hb:∀ g,g < w.heap.size->(∀ k,r=some k->g ≠ k)->w'.heap[g]? = w.heap[g]?:=λg hl hne=>hg.block g hl (λe=>hne g e.symm rfl);obtain ⟨es,clock,hm,hes⟩:=h.memo;refine ⟨h.case,dY h.bw hg hr2,h.hb,h.hm,h.hg,(hb b (lt_of_block h.blk) λk e=>((h.away k (hr k e)).2.1).symm).trans h.blk,(hb gb (lt_of_block h.sh) λk e=>((h.away k (hr k e)).2.2.2.1).symm).trans h.sh,h.len,λs hs=>⟨(h.ints s hs).1.grow hg λh0 ad e e2=>(h.away _ (hr _ e2.symm)).2.2.2.2 s hs h0 ad e rfl,(h.ints s hs).2⟩,
  ⟨es,clock,(hb mb (l_.1 hm).1 λk e=>((h.away k (hr k e)).2.2.1).symm).trans hm,λe he=>?_⟩,h.ok,h.away⟩
 obtain ⟨k,s,m,h1,h2,h3,h4,h5⟩:=hes e he;refine ⟨k,s,m,h1,h2,h3,h4,?_⟩;cases hbt:K.best x.nd x.l s x.r (K.part (K.iota 6) m) with
 | none=>rw [hbt] at h5;exact h5
 | some t =>
  rw [hbt] at h5;obtain ⟨g,A,n,c,A',n',c',g1,g2,g3,g4,g5,g6,g7⟩:=h5;exact ⟨g,A,n,c,A',n',c',g1,iV hg g2 (λe=>g5 (hr g e.symm)),g3.grow hg (λh0 ad e e2=>g6 h0 ad e (hr _ e2.symm)),g4.grow hg (λh0 ad e e2=>g7.1 h0 ad e (hr _ e2.symm)),g5,g6,g7⟩
def Xj (w w':World) (p:List (Nat × K.Tr) × Int) (e:Ending):Prop :=
 (∃ A n c l,e=.returned (.tuple #[.slice A n c,.int .i64 p.2])/\ja w' A n l/\n<=c/\l.map TV.pr=p.1.map (λt=>((t.1:Int),t.2))/\(∀ ad,A=some ad->w.heap.size<=ad.block)/\NT w l)/\af w w'
theorem acZ {w w':World} {p:List (Nat × K.Tr) × Int} {er:Int} (h:p=([],er)) (hb:af w w'):Xj w w' p (.returned (.tuple #[.slice none 0 0,.int .i64 er])):=by
 subst h;exact ⟨⟨none,0,0,[],rfl,⟨⟨rfl,rfl,λh=>absurd h (by omega)⟩,λy h=>by cases h⟩,zG _,rfl,(λad e=>(by cases e)),(λy h=>(by cases h))⟩,hb⟩
theorem acv (x:Cs) (w:World) (hx:eu w x) :
  ay 20 #[.agg #[.int .i64 x.nd,.slice x.A x.n x.c],.slice x.SA x.sn x.sc,.slice x.B x.m x.d] w λe w'=>Xj w w' (K.plan x.nd x.l x.ss x.r) e:=by
 have hN:=Net.new w x.nd x.A x.n x.c;have p0:=hN.c0;have p1:=hN.c1;have b0:af w (w.alloc (.cells #[.int .i64 x.nd,.slice x.A x.n x.c] 24)):=ai.alloc (zG _) _;go_enter Tryz.func20,Tryz.ntmps20;go_wp2_with fail;refine (Qz x _ (hx.below b0)).mono ?_;obtain ⟨ce,hce⟩:=zB (K.bK x.nd x.l x.ss x.r);rw [<-hce];rintro e w1 ⟨rfl,b1⟩;have hN1:=hN.below b1;have hb1:=bel b0 b1;clear p0 p1 b0 b1 hN;by_cases hz:ce=0;rotate_left
 ·have HX:=zC (show K.plan x.nd x.l x.ss x.r=([],ce) by rw [hce] at hz ⊢;exact K.NR hz);have hd:(ce != 0)=true:=by simp [bne,hz]
  clear hce;go_wp2_with fail;go_ret2
  exact acZ HX.out hb1
 subst hz;have aY:=zC hce.symm;clear hce;have p0:=hN1.c0;have p1:=hN1.c1;go_wp2_with fail;refine (alR x _ (hx.below hb1) aY.out).mono ?_;rintro e w2 ⟨b,mb,gb,rfl,hp0⟩;have Un:=hb1.size;have hp2:=hp0 (Old w) (λg hg=>dO hg Un);have EH:=hp2.bw.size;have anq:=hp2.hm;clear hp0;have o6:x.m<=6:=by rw [hx.bf.1];exact (K.kT aY.out).2.2.2.2
 have uw:x.sn<=4:=by rw [hx.shifts.1.1];exact (K.kT aY.out).2.1
 have eF:=zC hx.shifts.1.1;have aS:=zC hx.bf.1;clear p0 p1 hN1;go_wp2_with fail;have CA:=ae7 w1 b mb gb x w.heap.size (λg (hg:Old w g)=>hg) x.m 0 _ w2 (by omega) (aN Un EH) hp2 (λs hs=>by rw [List.eq_of_mem_replicate hs];exact ⟨List.Pairwise.nil,λy hy=>(by cases hy),λ_=>⟨rfl,rfl⟩⟩);have ZW:=A.ae8 (B:=K.eH x.nd x.l x.ss x.r) K.agj.mono x.sn x.m;rw [show (List.replicate x.sn (⟨none,0,0,[]⟩:Sh)).map Sh.l=List.replicate x.sn [] by rw [List.map_replicate],show ((0:Nat):Int)=0 from rfl,ZW] at CA;refine CA.mono ?_;rintro e w3 ⟨⟨az,hp3,hres⟩,-⟩;clear ZW hp2 CA;cases hf:A.first (K.eH x.nd x.l x.ss x.r) x.sn x.m with
 | none =>
  rw [hf] at hres;rcases hres with ⟨-,rfl,-⟩ | ⟨fin,h,-⟩
  rotate_left
  ·cases h
  have HX:=zC (show K.plan x.nd x.l x.ss x.r=([],4) by unfold K.plan;rw [if_pos aY.out,<-eF.out,<-aS.out,hf]);have hb3:=bel hb1 hp3.bw;clear hf;go_wp2_with fail;go_ret2
  exact acZ HX.out hb3
 | some d =>
  rw [hf] at hres;rcases hres with ⟨h,-⟩ | ⟨fin,h,rfl,hfin⟩
  ·cases h
  injection h with h;have DF:=zC (show K.plan x.nd x.l x.ss x.r=(K.vY x.nd x.l x.ss x.r d,0) by unfold K.plan;rw [if_pos aY.out,<-eF.out,<-aS.out,hf]);have Wh:=zC (K.first_some hf);have aeu:=zC (hfin.trans h.symm);have c4:w3.cell? ⟨b,4,none⟩=some (.slice (some ⟨gb,0,none⟩) x.sn x.sn):=ah hp3.blk 4 _ rfl;obtain ⟨hd1,-,hd3⟩:=Wh.out;have hw1:=hp3.bw.size;have hwb:=lt_of_block hp3.blk;obtain ⟨base,hbase⟩:=zB w3.heap.size;have aad:w1.heap.size<=base:=by rw [hbase];exact hw1
  have aac:w.heap.size<=base:=aN Un aad;clear hf h hfin Wh;have HD1:=zC hd1;have HD3:=zC hd3;clear hd1 hd3;go_wp2_with fail;clear c4;go_loopw [10,32] (λv10 v32 wr=>∃ (s:Nat) (ts:List TV),v32=.int .i64 s/\s<=x.sn/\ts.length<=s/\wr.ownsRow base 80 4 v10 ts.length (ts.flatMap TV.cells)/\iE w1 wr b mb gb x (λg=>v10.ownBlock=some g\/Old w g) az/\NT w ts/\base<=wr.heap.size/\(∀ y ∈ ts,(Ints wr y.A y.n y.t.stops/\Ints wr y.A' y.n' y.t.times)/\(0 < y.n->∀ ad,y.A=some ad->v10.ownBlock ≠ some ad.block)/\(0 < y.n'->∀ ad,y.A'=some ad->v10.ownBlock ≠ some ad.block))/\Hid (ts.map TV.pr=((List.range s).filterMap (K.vX x.nd x.l x.ss x.r d)).map λt=>((t.1:Int),t.2))) (λ_ v32 _=>x.sn - (intOf v32).toNat)
  case atStart=>exact ⟨0,[],rfl,aW _,aW _,kF _ _ _ _,hp3.turn (λg h=>h.elim (λe=>(by cases e)) .inl),λy hy=>(by cases hy),by rw [hbase];exact zG _,λy hy=>(by cases hy),rfl⟩
  case round =>
   clear hp3 hwb hw1;obtain ⟨s,ts,rfl,hs,htl,hown,hpr,SE,hbs,hts,hpl⟩:=hrel;by_cases hlt:s < x.sn
   ·obtain ⟨sh,hsh⟩:∃ sh,az[s]? = some sh:=⟨_,zF (by rw [hpr.len];exact hlt)⟩;have Ud:sh.l=A.share d s 0:=by
     have h9:=congrArg (λl=>l[s]?) aeu.out;simp only [dG,List.getElem?_range hlt,hsh,Option.map_some] at h9;injection h9
    obtain ⟨hI,hnc⟩:=hpr.ints sh (zD hsh);have c5:wr.cell? ⟨gb,s,none⟩=some (.slice sh.A sh.n sh.c):=ah hpr.sh s _ (by rw [List.getElem?_toArray,dG,hsh];rfl);obtain ⟨k0,k1⟩:=zJ (a:=s) (b:=x.sn) (by omega);have nH:=zC hpr;have HI:=zC hI;have DJ:=zC Ud;have qo:=zC hsh;have nZ:=zC hts;clear hpr hI hsh hts;by_cases hn0:sh.n=0
    ·have hd1:decide ((0:Int) < (sh.n:Int))=false:=by rw [hn0];rfl
     have hd2:decide (0 < sh.n)=false:=by rw [hn0];rfl
     have HE:=zC (show K.vX x.nd x.l x.ss x.r d s=none by
      unfold K.vX;have:A.share d s 0=[]:=by rw [<-DJ.out];exact List.length_eq_zero_iff.1 (by rw [<-HI.out.1];exact hn0)
      rw [this];rfl)
     have bH:=zC (hpl.out.trans (congrArg _ (K.aej HE.out).symm));clear Ud hpl;go_wp2_with fail;go_roundw
     case rel=>(go_light;exact ⟨s + 1,ts,by go_num,hlt,by omega,hown,nH.out,SE,hbs,nZ.out,bH.out⟩)
     case measure=>(go_light;simp [intOf];omega)
    ·have hn1:0 < sh.n:=by omega
     have hd1:decide ((0:Int) < (sh.n:Int))=true:=by simp;omega
     have hd2:decide (0 < sh.n)=true:=by simp;omega
     have hne:A.share d s 0 ≠ []:=λe=>by
      rw [<-DJ.out] at e;have:=HI.out.1;rw [e] at this;exact hn0 this
     obtain ⟨sS,hsS⟩:∃ sS,x.ss[s]? = some sS:=⟨_,zF (by rw [<-eF.out];exact hlt)⟩;have hsorted:sh.l.Pairwise (· < ·):=by rw [DJ.out];exact A.sD _ _ _
     have hbound:∀ i ∈ sh.l,0<=i/\i < (x.r.length:Int):=λi hi=>by
      rw [DJ.out] at hi;have:=A.x8 hi;rw [HD1.out] at this;have:=aS.out;omega
     have hfe:=(HD3.out s hlt).resolve_left hne;rw [<-DJ.out] at hfe;obtain ⟨s2,t,hs2,hbt⟩:=(K.Gy aY.out hsorted hbound).1 hfe;rw [hsS] at hs2;injection hs2 with hs2;subst hs2;have CB:=Qu w1 b mb gb x az s sS sh.A sh.n sh.c sh.l wr nH.out (λg hg=>hg.elim (λhg=>(hown.lt g hg).2) (λhg=>dO hg (aN aac hbs))) hsS HI.out hnc hsorted hbound;rw [hbt] at CB;have HE:=zC (show K.vX x.nd x.l x.ss x.r d s=some (s,t) by
      unfold K.vX;rw [List.isEmpty_eq_false_iff.2 hne,hsS];rw [DJ.out] at hbt;show (K.best x.nd x.l sS x.r (A.share d s 0)).map _=_;rw [hbt];rfl)
     have bH:=zC (show (ts.map TV.pr) ++ [((s:Int),t)] = ((List.range (s + 1)).filterMap (K.vX x.nd x.l x.ss x.r d)).map λt=>((t.1:Int),t.2) by rw [K.aek HE.out,eG,<-hpl.out];rfl);clear hne hsorted hbound hfe hbt hpl hsS Ud;go_wp2_with fail;refine CB.mono ?_;rintro e wb ⟨⟨u,rfl,g,A,n,c,A',n',c',rfl,hT,hI1,hI2,hx1,hx2,hx3,hk0,hk1⟩,hgb,hpb⟩;have aaG:=hown.kept hgb (.inr λe=>(hpb.away mb (.inl e)).2.2.1 rfl);have aaU:0 < n->∀ ad,A=some ad->u10.ownBlock ≠ some ad.block:=λh0 ad e e2=>hx2 h0 ad e (.inl e2);have aaV:0 < n'->∀ ad,A'=some ad->u10.ownBlock ≠ some ad.block:=λh0 ad e e2=>hx3 h0 ad e (.inl e2);have ahb:NT w (ts ++ [(⟨s,A,n,c,A',n',c',t⟩:TV)]):=SE.snoc (λh0 ad e=>Nat.le_of_not_lt λe2=>hx2 h0 ad e (.inr e2)) (λh0 ad e=>Nat.le_of_not_lt λe2=>hx3 h0 ad e (.inr e2)) ⟨hk0,hk1⟩;have hxb:=nH.out.memo.ext hgb;obtain ⟨t0,t1,t2,t3⟩:=hT.cells;obtain ⟨wl,hwl⟩:=zB (wb.alloc (.cells #[.int .i64 s,.slice A n c,.slice A' n' c',.int .i64 t.end_] 80));have bl:=aH hwl;have Rt:wl.heap[wb.heap.size]? = some (.cells #[.int .i64 s,.slice A n c,.slice A' n' c',.int .i64 t.end_] 80 (0,0)):=by rw [hwl];exact aA _ _
     have MS:=own_below aaG bl;have hpl:=hpb.below bl;have hbl:base<=wl.heap.size:=aN hbs (aN hgb.size bl.size);have hln:ts.length<=1000000:=by omega
     have aez:=zC (show ((ts ++ [(⟨s,A,n,c,A',n',c',t⟩:TV)]).map TV.pr)=((List.range (s + 1)).filterMap (K.vX x.nd x.l x.ss x.r d)).map λt=>((t.1:Int),t.2) by rw [<-bH.out,eG];rfl);have aaT:∀ y ∈ ts,(Ints wl y.A y.n y.t.stops/\Ints wl y.A' y.n' y.t.times)/\(0 < y.n->∀ ad,y.A=some ad->u10.ownBlock ≠ some ad.block)/\(0 < y.n'->∀ ad,y.A'=some ad->u10.ownBlock ≠ some ad.block):=λy hy=>⟨⟨((nZ.out y hy).1.1.ext hxb).below bl,((nZ.out y hy).1.2.ext hxb).below bl⟩,(nZ.out y hy).2⟩;have WW:=zC aaT;have Zi:=hI1.below bl;have Zk:=hI2.below bl;have aaH:=MS;rw [hwl] at MS Rt;clear CB hown nH nZ hxb hgb aaG hpb aaT hT;go_wp2_with (at_builtin;refine Qk rfl (.tmp 40) (.tmp 47) rfl base u10 ts.length ts rfl MS wb.heap.size ⟨s,A,n,c,A',n',c',t⟩ rfl Rt hln (by rw [<-hwl];exact hbl) ?_;rw [<-hwl];intro v' w6 hown6 hgrow6 gy);have Ci:iE w1 w6 b mb gb x (λg=>v'.ownBlock=some g\/Old w g) az:=by
      refine ((hpl.turn (Y:=λg=>(u10.ownBlock=some g\/g=wl.heap.size)\/Old w g) (λg h=>h.elim (λh=>h.elim (λe=>.inl (.inl e)) λe=>.inr (by rw [e];exact zG _)) (λh=>.inl (.inr h)))).own hgrow6 (λg e=>.inl (.inl e)) (λg e=>aN aad (aaH.lt g e).1)).turn λg h=>.inl ?_;rcases h with h | h
      ·refine .inl ?_;rcases gy with e | e
       ·rw [e] at h;exact .inl h
       ·rw [e] at h;injection h with h;exact .inr h.symm
      ·exact .inr h
     have hgo:∀ (B:aj) (k:Nat) (l:ag),Ints wl B k l->(0 < k->∀ ad,B=some ad->u10.ownBlock ≠ some ad.block)->Ints w6 B k l/\(0 < k->∀ ad,B=some ad->v'.ownBlock ≠ some ad.block):=λB k l hI hne=>⟨hI.grow hgrow6 (λh0 ad e e2=>hne h0 ad e e2.symm),λh0 ad e e2=>by
      rcases gy with e3 | e3
      ·rw [e3] at e2;exact hne h0 ad e e2
      ·rw [e3] at e2;injection e2 with e2;have:=hI.nD h0 e;omega⟩
     have ah5:∀ y ∈ ts ++ [(⟨s,A,n,c,A',n',c',t⟩:TV)],(Ints w6 y.A y.n y.t.stops/\Ints w6 y.A' y.n' y.t.times)/\(0 < y.n->∀ ad,y.A=some ad->v'.ownBlock ≠ some ad.block)/\(0 < y.n'->∀ ad,y.A'=some ad->v'.ownBlock ≠ some ad.block):=λy hy=>by
      rcases dX.1 hy with hy | hy
      ·obtain ⟨⟨g1,g2⟩,g3,g4⟩:=WW.out y hy;obtain ⟨f1,f2⟩:=hgo _ _ _ g1 g3;obtain ⟨f3,f4⟩:=hgo _ _ _ g2 g4;exact ⟨⟨f1,f3⟩,f2,f4⟩
      ·rw [dB] at hy;subst hy;obtain ⟨f1,f2⟩:=hgo _ _ _ Zi aaU;obtain ⟨f3,f4⟩:=hgo _ _ _ Zk aaV;exact ⟨⟨f1,f3⟩,f2,f4⟩
     have hb6:=aN hbl hgrow6.size;have dP:(ts ++ [(⟨s,A,n,c,A',n',c',t⟩:TV)]).length=ts.length + 1:=by rw [cZ];rfl
     clear hgo hgrow6 gy hwl MS aaH aaU aaV Rt Zi Zk hx1 hx2 hx3 WW bl t0 t1 t2 t3;go_roundw
     case rel=>(go_light;exact ⟨s + 1,ts ++ [⟨s,A,n,c,A',n',c',t⟩],by go_num,hlt,by omega,by rw [dP];exact hown6,Ci,ahb,hb6,ah5,aez⟩)
     case measure=>(go_light;simp [intOf];omega)
   ·have hse:s=x.ss.length:=by have:=eF.out;omega
    obtain ⟨A9,c9,rfl,jL,rD⟩:=fP hown;have TN:ts.length<=c9:=by
     obtain ⟨-,⟨e,e0⟩ | ⟨g',cap,cur,e,-,-,h9,-⟩⟩:=hown
     ·rw [e0];exact aW _
     ·injection e with e1 e2 e3;rw [e3];exact h9
    have HX:=zC (show K.plan x.nd x.l x.ss x.r=(_,0) from DF.out);have HTO:=zC (show ts.map TV.pr=(K.plan x.nd x.l x.ss x.r).1.map λt=>((t.1:Int),t.2) by rw [DF.out,K.ame,<-hse];exact hpl.out);clear hse hpl;go_wp2_with fail;go_ret2
    refine ⟨⟨A9,ts.length,c9,ts,by rw [HX.out];rfl,⟨⟨rfl,jL⟩,λy hy=>(hts y hy).1⟩,TN,HTO.out,λad e=>aN aac (rD _ (by rw [e];rfl)).1,SE⟩,bel hb1 hpr.bw⟩
theorem Vg (x:Cs) (w:World) (hx:eu w x) :
  ay 20 #[.agg #[.int .i64 x.nd,.slice x.A x.n x.c],.slice x.SA x.sn x.sc,.slice x.B x.m x.d] w λe w'=>Xi w w' (K.plan x.nd x.l x.ss x.r) e :=
 (acv x w hx).mono λ_ _ ⟨⟨A,n,c,l,h1,h2,h3,h4,_,_⟩,hb⟩=>⟨⟨A,n,c,l,h1,h2,h3,h4⟩,hb⟩
end Go.Proofs.YtippdjmpkafifaaGreat
