import Derived.Test.YtippdjmpkafifaaGreatCR11
set_option maxRecDepth 100000
set_option maxHeartbeats 64000000
namespace Go.Proofs.YtippdjmpkafifaaGreat
open Go.RowKit
theorem aia (A:aj) (n c:Nat) (l:ag) (x:Int) (w:World) (hl:Ints w A n l) (hn:n<=1000000000) :
  ay 153 #[.slice A n c,.int .i64 x] w λe w'=>(∃ i:Int,e=.returned (.int .i64 i)/\(decide (0<=i))=l.any (· == x))/\af w w':=by
 go_enter Tryz.func153,Tryz.ntmps153;go_wp2_with fail;go_loopw [8] (λvi wr=>∃ k:Nat,vi=.int .i64 k/\k<=n/\Hid (l.any (· == x)=(l.drop k).any (· == x))/\af w wr) (λvi _=>n - (intOf vi).toNat)
 case atStart=>exact ⟨0,rfl,by omega,by show _=_;rw [List.drop_zero],ai⟩
 case round =>
  obtain ⟨k,rfl,hk,hr,hW⟩:=hrel;by_cases hlt:k < n
  ·obtain ⟨ad,y,rfl,hg,c0⟩:=(hl.below hW).at_ hlt;have HS:=zC (oU (p:=(· == x)) hg);obtain ⟨k0,k1⟩:=zJ (a:=k) (b:=n) (by omega);clear hg;by_cases hxy:x=y
   ·have hd1:decide (x=y)=true:=zH hxy;have hd2:(x == y)=true:=beq_iff_eq.2 hxy;have jo:=zC (show (y == x)=true from beq_iff_eq.2 hxy.symm);clear hxy;go_wp2_with fail;go_ret;exact ⟨⟨k,rfl,by rw [hr.out,HS.out,jo.out];simp⟩,hW⟩
   ·have hd1:decide (x=y)=false:=zI hxy;have hd2:(x == y)=false:=beq_eq_false_iff_ne.2 hxy;have jo:=zC (show (y == x)=false from beq_eq_false_iff_ne.2 λe=>hxy e.symm);clear hxy;go_wp2_with fail;go_roundw
    case rel=>exact ⟨k + 1,by go_num,by omega,by show _=_;rw [hr.out,HS.out,jo.out];rfl,hW⟩
    case measure=>simp [intOf];omega
  ·have hd:l.drop k=[]:=dF (by rw [<-hl.1];omega);have HD:=zC hd;clear hd;go_wp2_with fail;go_ret;exact ⟨⟨-1,rfl,by rw [hr.out,HD.out];rfl⟩,hW⟩
theorem af1 (A:aj) (n c:Nat) (l:ag) (x:Int) (w:World) (hl:Ints w A n l) (hn:n<=1000000000) :
  ay 108 #[.slice A n c,.int .i64 x] w (bg w (l.any (· == x))):=by
 have CI:=aia A n c l x w hl hn;go_enter Tryz.func108,Tryz.ntmps108;go_wp2_with fail;refine CI.mono ?_;rintro e w1 ⟨⟨i,rfl,hi⟩,hb1⟩;go_wp2_with fail;go_ret;exact ⟨by rw [<-hi];rfl,hb1⟩
theorem aie (G:Nat) (p:Int->Bool) (A:aj) (n c:Nat) (l:ag) (w:World) (hl:Ints w A n l) (hn:n<=1000000000) (CF:∀ x ∈ l,∀ w',af w w'->ay 127 #[.int .i64 x,.pointer (some ⟨G,0,none⟩)] w' λe w''=>e=.returned (.bool (p x))/\af w' w'') :
  ay 136 #[.slice A n c,.func (.func 127) #[] #[.pointer (some ⟨G,0,none⟩)]] w λe w'=>(∃ i:Int,e=.returned (.int .i64 i)/\(decide (0<=i))=l.any p)/\af w w':=by
 go_enter Tryz.func136,Tryz.ntmps136;go_wp2_with fail;go_loopw [8] (λvi wr=>∃ k:Nat,vi=.int .i64 k/\k<=n/\Hid (l.any p=(l.drop k).any p)/\af w wr) (λvi _=>n - (intOf vi).toNat)
 case atStart=>exact ⟨0,rfl,by omega,by show _=_;rw [List.drop_zero],ai⟩
 case round =>
  obtain ⟨k,rfl,hk,hr,hW⟩:=hrel;by_cases hlt:k < n
  ·obtain ⟨ad,x,rfl,hg,c0⟩:=(hl.below hW).at_ hlt;have HS:=zC (oU (p:=p) hg);have CB:=CF x (zD hg) wr hW;obtain ⟨r9,gU⟩:=zB (p x);try rw [show p x=r9 from gU.symm] at CB
   have jo:=zC gU;obtain ⟨k0,k1⟩:=zJ (a:=k) (b:=n) (by omega);clear hg gU;go_wp2_with fail;refine CB.mono ?_;rintro e w1 ⟨rfl,hW1⟩;have hW2:=bel hW hW1;clear CB;cases r9
   ·go_wp2_with fail;go_roundw
    case rel=>exact ⟨k + 1,by go_num,by omega,by show _=_;rw [hr.out,HS.out,<-jo.out];rfl,hW2⟩
    case measure=>simp [intOf];omega
   ·go_wp2_with fail;go_ret;exact ⟨⟨k,rfl,by rw [hr.out,HS.out,<-jo.out];simp⟩,hW2⟩
  ·have hd:l.drop k=[]:=dF (by rw [<-hl.1];omega);have HD:=zC hd;clear hd;go_wp2_with fail;go_ret;exact ⟨⟨-1,rfl,by rw [hr.out,HD.out];rfl⟩,hW⟩
theorem af4 (G:Nat) (p:Int->Bool) (A:aj) (n c:Nat) (l:ag) (w:World) (hl:Ints w A n l) (hn:n<=1000000000) (CF:∀ x ∈ l,∀ w',af w w'->ay 127 #[.int .i64 x,.pointer (some ⟨G,0,none⟩)] w' λe w''=>e=.returned (.bool (p x))/\af w' w'') :
  ay 85 #[.slice A n c,.func (.func 127) #[] #[.pointer (some ⟨G,0,none⟩)]] w (bg w (l.any p)):=by
 have CI:=aie G p A n c l w hl hn CF;go_enter Tryz.func85,Tryz.ntmps85;go_wp2_with fail;refine CI.mono ?_;rintro e w1 ⟨⟨i,rfl,hi⟩,hb1⟩;go_wp2_with fail;go_ret;exact ⟨by rw [<-hi];rfl,hb1⟩
theorem aid (G:Nat) (p:Int->Bool) (A:aj) (n c:Nat) (l:ag) (w:World) (hl:Ints w A n l) (hn:n<=1000000000) (CF:∀ x ∈ l,∀ w',af w w'->ay 86 #[.int .i64 x,.pointer (some ⟨G,0,none⟩)] w' λe w''=>e=.returned (.bool (p x))/\af w' w'') :
  ay 136 #[.slice A n c,.func (.func 86) #[] #[.pointer (some ⟨G,0,none⟩)]] w λe w'=>(∃ i:Int,e=.returned (.int .i64 i)/\(decide (0<=i))=l.any p)/\af w w':=by
 go_enter Tryz.func136,Tryz.ntmps136;go_wp2_with fail;go_loopw [8] (λvi wr=>∃ k:Nat,vi=.int .i64 k/\k<=n/\Hid (l.any p=(l.drop k).any p)/\af w wr) (λvi _=>n - (intOf vi).toNat)
 case atStart=>exact ⟨0,rfl,by omega,by show _=_;rw [List.drop_zero],ai⟩
 case round =>
  obtain ⟨k,rfl,hk,hr,hW⟩:=hrel;by_cases hlt:k < n
  ·obtain ⟨ad,x,rfl,hg,c0⟩:=(hl.below hW).at_ hlt;have HS:=zC (oU (p:=p) hg);have CB:=CF x (zD hg) wr hW;obtain ⟨r9,gU⟩:=zB (p x);try rw [show p x=r9 from gU.symm] at CB
   have jo:=zC gU;obtain ⟨k0,k1⟩:=zJ (a:=k) (b:=n) (by omega);clear hg gU;go_wp2_with fail;refine CB.mono ?_;rintro e w1 ⟨rfl,hW1⟩;have hW2:=bel hW hW1;clear CB;cases r9
   ·go_wp2_with fail;go_roundw
    case rel=>exact ⟨k + 1,by go_num,by omega,by show _=_;rw [hr.out,HS.out,<-jo.out];rfl,hW2⟩
    case measure=>simp [intOf];omega
   ·go_wp2_with fail;go_ret;exact ⟨⟨k,rfl,by rw [hr.out,HS.out,<-jo.out];simp⟩,hW2⟩
  ·have hd:l.drop k=[]:=dF (by rw [<-hl.1];omega);have HD:=zC hd;clear hd;go_wp2_with fail;go_ret;exact ⟨⟨-1,rfl,by rw [hr.out,HD.out];rfl⟩,hW⟩
theorem af2 (G:Nat) (p:Int->Bool) (A:aj) (n c:Nat) (l:ag) (w:World) (hl:Ints w A n l) (hn:n<=1000000000) (CF:∀ x ∈ l,∀ w',af w w'->ay 86 #[.int .i64 x,.pointer (some ⟨G,0,none⟩)] w' λe w''=>e=.returned (.bool (p x))/\af w' w'') :
  ay 85 #[.slice A n c,.func (.func 86) #[] #[.pointer (some ⟨G,0,none⟩)]] w (bg w (l.any p)):=by
 have CI:=aid G p A n c l w hl hn CF;go_enter Tryz.func85,Tryz.ntmps85;go_wp2_with fail;refine CI.mono ?_;rintro e w1 ⟨⟨i,rfl,hi⟩,hb1⟩;go_wp2_with fail;go_ret;exact ⟨by rw [<-hi];rfl,hb1⟩
theorem ajI (G:Nat) (B:aj) (m d:Nat) (b:ag) (x:Int) (w:World) (hG:w.heap[G]? = some (.cells #[.slice B m d] 48 (0,0))) (hb:Ints w B m b) (hm:m<=1000000000) :
  ay 127 #[.int .i64 x,.pointer (some ⟨G,0,none⟩)] w (bg w (!(b.any (· == x)))):=by
 have c0:=ah hG 0 _ rfl;go_enter Tryz.func127,Tryz.ntmps127;go_wp2_with fail;refine (af1 B m d b x w hb hm).mono ?_;rintro e w1 ⟨rfl,hb1⟩;go_wp2_with fail;go_ret;exact ⟨rfl,hb1⟩
theorem A.ajJ (a b:ag):(!(a.any λx=>!(b.any (· == x))))=A.part a b:=by
 unfold A.part;rw [List.all_eq_not_any_not]
theorem ace (E:aj) (n c:Nat) (a:ag) (B:aj) (m d:Nat) (b:ag) (w:World) (ha:Ints w E n a) (hn:n<=1000000000) (hb:Ints w B m b) (hm:m<=1000000000) :
  ay 77 #[.slice E n c,.slice B m d] w (bg w (A.part a b)):=by
 have b0:af w (w.alloc (.cells #[.slice B m d] 48)):=ai.alloc (zG _) _;have hG:=aA w (.cells #[.slice B m d] 48);have CC:=af4 w.heap.size (λx=>!(b.any (· == x))) E n c a (w.alloc (.cells #[.slice B m d] 48)) (ha.below b0) hn (λx _ w' hb'=>ajI w.heap.size B m d b x w' (au hb' hG) ((hb.below b0).below hb') hm);go_enter Tryz.func77,Tryz.ntmps77;go_wp2_with fail;refine CC.mono ?_;rintro e w1 ⟨rfl,hb1⟩;go_wp2_with fail;go_ret;exact ⟨by rw [<-A.ajJ];rfl,bel b0 hb1⟩
namespace K
section
variable {nd : Int} {l : List Ro} {ss : List S} {r : List Q} {last : Int} {served : ag} {t : Int × Tr} {rest : List (Int × Tr)}
theorem KL (h:t.1 < 0\/(ss.length:Int)<=t.1):jf nd l ss r last served (t :: rest)=1:=by
 unfold jf;by_cases hn:t.1 < 0
 ·rw [if_pos hn]
 ·rw [if_neg hn,lK (by omega)]
theorem X_ {x:S} (h0:0<=t.1) (hx:ss[t.1.toNat]? = some x):jf nd l ss r last served (t :: rest)=if t.1<=last then 5 else if t.2.stops.isEmpty || !(check nd l x r t.2) then 24 else if t.2.stops.any (λk=>served.any (· == k)) then 5 else jf nd l ss r t.1 (served ++ t.2.stops) rest:=by
 rw [jf,if_neg (by omega),hx]
end
theorem Yj {nd:Int} {l:List Ro} {ss:List S} {r:List Q} {ts:List (Int × Tr)} (h:bK nd l ss r ≠ 0):checks nd l ss r ts=bK nd l ss r:=by unfold checks;rw [if_neg h]
theorem Yi {nd:Int} {l:List Ro} {ss:List S} {r:List Q} {ts:List (Int × Tr)} (h:bK nd l ss r=0):checks nd l ss r ts=jf nd l ss r (-1) [] ts:=by unfold checks;rw [if_pos h]
theorem abR {a b:ag} (ha:a.Nodup) (hb:b.Nodup) (h:b.any (λk=>a.any (· == k))=false):(a ++ b).Nodup:=by
 rw [List.nodup_append];refine ⟨ha,hb,λx hx y hy e=>?_⟩;subst e;rw [List.any_eq_false] at h;exact h x hy (List.any_eq_true.2 ⟨x,hx,beq_self_eq_true _⟩)
theorem ND {a:ag} {n:Nat} (ha:a.Nodup) (hb:∀ z ∈ a,0<=z/\z < (n:Int)):a.length<=n:=by
 have:=IU (b:=iota n) ha λz hz=>zY.2 (hb z hz);unfold iota at this;rw [bu,List.length_range] at this;exact this
end K
open Go.Maps in
theorem Xz:∀ (l:ag) (acc:List Lit),(∀ x ∈ l,acc.any (λy=>y.sameKey (.int .i64 x))=false)->l.Nodup->((l.map (Lit.int .i64)).foldl addKey acc).length=acc.length + l.length
 | [],acc,_,_=>rfl
 | x :: l,acc,h,hn=>by
  obtain ⟨h1,h2⟩:=List.nodup_cons.1 hn;rw [List.map_cons,List.foldl_cons];have hx:=h x (dJ ..);have e:addKey acc (.int .i64 x)=acc ++ [.int .i64 x]:=by unfold addKey;rw [hx];rfl
  rw [e,Xz l _ (λy hy=>?_) h2,cZ,dQ]
  ·simp;omega
  ·rw [List.any_append,h y (dN _ hy),Bool.false_or];simp only [List.any_cons,List.any_nil,Bool.or_false];have hne:x ≠ y:=λe=>h1 (by rw [e];exact hy);simp [Lit.sameKey,hne]
open Go.Maps in
theorem alz {l:ag} (h:l.Nodup):Maps.size (seen l)=l.length:=by
 unfold seen;rw [size_setOf _ _ (λx hx=>by obtain ⟨y,-,rfl⟩:=fE.1 hx;trivial),Xz l [] (λ_ _=>rfl) h];simp
theorem afR (G mb n:Nat) (served:ag) (x:Int) (w:World) (hG:w.heap[G]? = some (.cells #[.map (some mb)] 120 (0,0))) (hS:Seen w mb n served) (hx:(Lit.int .i64 x).wf=true) :
  ay 86 #[.int .i64 x,.pointer (some ⟨G,0,none⟩)] w (bg w (served.any (· == x))):=by
 have c0:=ah hG 0 _ rfl;have LK:=hS.look x hx;go_enter Tryz.func86,Tryz.ntmps86;go_wp2_with fail;go_ret;exact ⟨rfl,ai⟩
section
open Go.RowKit Go.Maps
def Am (tn:Nat) (ts:List TV):Prop:=tn<=1000000000/\∀ y ∈ ts,y.n<=100000/\y.n'<=1000000000
theorem afQ (x:Cs) (TA:aj) (tn tc:Nat) (ts:List TV) (w:World) (hx:eu w x) (hT:ja w TA tn ts) (hF:Am tn ts) :
  ay 26 #[.agg #[.int .i64 x.nd,.slice x.A x.n x.c],.slice x.SA x.sn x.sc,.slice x.B x.m x.d,.slice TA tn tc] w (og w (K.checks x.nd x.l x.ss x.r (ts.map TV.pr))):=by
 have hN:=Net.new w x.nd x.A x.n x.c;have p0:=hN.c0;have p1:=hN.c1;have b0:af w (w.alloc (.cells #[.int .i64 x.nd,.slice x.A x.n x.c] 24)):=ai.alloc (zG _) _;go_enter Tryz.func26,Tryz.ntmps26;go_wp2_with fail;refine (Qz x _ (hx.below b0)).mono ?_;obtain ⟨ce,hce⟩:=zB (K.bK x.nd x.l x.ss x.r);rw [<-hce];rintro e w1 ⟨rfl,b1⟩;have hN1:=hN.below b1;have hb1:=bel b0 b1;clear p0 p1 b0 b1 hN;by_cases hz:ce=0;rotate_left
 ·have HX:=zC (show K.checks x.nd x.l x.ss x.r (ts.map TV.pr)=ce by rw [hce] at hz ⊢;exact K.Yj hz);have hd:(ce != 0)=true:=by simp [bne,hz]
  clear hce;go_wp2_with fail;go_ret;exact ⟨by rw [HX.out];rfl,hb1⟩
 subst hz;have aY:=zC hce.symm;clear hce;have eF:=zC hx.shifts.1.1;have aS:=zC hx.bf.1;have AO:=zC hT.1.1;have o6:x.m<=6:=by rw [aS.out];exact (K.kT aY.out).2.2.2.2
 have uw:x.sn<=4:=by rw [eF.out];exact (K.kT aY.out).2.1
 have Fq:=zC (show K.checks x.nd x.l x.ss x.r (ts.map TV.pr)=_ from K.Yi aY.out);obtain ⟨L,hL⟩:=zB (ts.map TV.pr);rw [<-hL] at Fq;have HL:=zC hL;have hmm:=@run_makeMap Tryz.prog;obtain ⟨ah4,hty⟩:=hF;obtain ⟨w2,hw2⟩:=zB ((w1.alloc (.map #[] 0)).alloc (.cells #[.map (some w1.heap.size)] 120));obtain ⟨mp,hmp⟩:=zB w1.heap.size;have z1:=aF w1 (.map #[] 0);have b12:af w1 w2:=by rw [hw2];exact bel (ai.alloc (zG _) _) (ai.alloc (zG _) _)
 have hG2:w2.heap[mp + 1]? = some (.cells #[.map (some mp)] 120 (0,0)):=by rw [hw2,hmp];exact bU _ _ _ z1.symm
 have hS2:Seen w2 mp 0 []:=by
  rw [hw2,hmp];have h:=World.ownsMap_made w1 Tryz.prog 3 (plainElem (H:=Unit) Tryz.prog 4);exact Seen.below (by rw [Seen,alA];exact h) (ai.alloc (zG _) _)
 go_upto_region 5 with fail;rw [<-hw2,<-hmp];have hbm:w1.heap.size<=mp:=by rw [hmp];exact zG _
 have aav:mp < w2.heap.size:=by have:=lt_of_block hG2;omega
 clear hw2 hmp z1 hmm hL;go_wp2_with fail;go_loopw [11,26] (λv11 v26 wr=>∃ (k:Nat) (last:Int) (served:ag),v26=.int .i64 k/\k<=tn/\v11=.int .i64 last/\Seen wr mp served.length served/\wr.heap[mp + 1]? = some (.cells #[.map (some mp)] 120 (0,0))/\af w1 wr/\Hid (served.Nodup/\(∀ z ∈ served,0<=z/\z < (x.m:Int)))/\served.length<=6/\Hid (K.checks x.nd x.l x.ss x.r L=K.jf x.nd x.l x.ss x.r last served (L.drop k))/\mp < wr.heap.size) (λ_ v26 _=>tn - (intOf v26).toNat)
 case atStart=>exact ⟨0,-1,[],rfl,aW _,rfl,hS2,hG2,b12,⟨List.nodup_nil,λz hz=>(by cases hz)⟩,aW _,Fq.out,aav⟩
 case round =>
  clear hS2 hG2 b12 aav;obtain ⟨k,last,served,rfl,hk,rfl,hS,hG,hbr,hsv,dP,hck,hmr⟩:=hrel;by_cases hlt:k < tn
  ·obtain ⟨ad,y,hTA,hy,⟨hI1,hI2⟩,c0,c1,c2,c3⟩:=(hT.below (bel hb1 hbr)).at_ hlt;have P8:=zC (zD hy);obtain ⟨hyn,Uu⟩:=hty y (zD hy);have hLk:L[k]? = some y.pr:=by rw [HL.out,dG,hy];rfl
   have HDR:=zC (show K.checks x.nd x.l x.ss x.r L=K.jf x.nd x.l x.ss x.r last served (y.pr :: L.drop (k + 1)) by rw [hck.out,D7 hLk]);obtain ⟨k0,k1⟩:=zJ (a:=k) (b:=tn) (by omega);obtain ⟨g,hg⟩:=zB wr.heap.size;obtain ⟨w3,hw3⟩:=zB (wr.alloc (.cells #[.int .i64 y.sh,.slice y.A y.n y.c,.slice y.A' y.n' y.c',.int .i64 y.t.end_] 80));have b3:=aH hw3;have hB3:jr w3 g y.sh (.slice y.A y.n y.c) (.slice y.A' y.n' y.c') y.t.end_:=by rw [hw3,hg];exact aA _ _
   have hS3:=hS.below b3;have hG3:=au b3 hG;have hb3:=bel hbr b3;have tJ:=hI1.below b3;have y7:=hI2.below b3;have hm3:mp < w3.heap.size:=dO hmr b3.size;have hN3:=hN1.below hb3;clear hy hLk hck hS hG hI1 hI2 hbr hmr;have qw:=zC tJ.1;by_cases hneg:y.sh < 0
   ·have hd1:decide (y.sh < 0)=true:=zH hneg;have HX:=zC (show K.checks x.nd x.l x.ss x.r L=1 by rw [HDR.out];exact K.KL (.inl hneg));rw [hTA];go_upto_region 8 with fail;rw [<-hw3,<-hg];clear hw3 hg c0 c1 c2 c3 hTA b3;obtain ⟨t0,t1,t2,t3⟩:=hB3.cells;go_wp2_with fail;go_ret;exact ⟨by rw [<-HL.out,HX.out];rfl,bel hb1 hb3⟩
   have hd1:decide (y.sh < 0)=false:=zI hneg;by_cases hbig:(x.sn:Int)<=y.sh
   ·have hd2:decide ((x.sn:Int)<=y.sh)=true:=zH hbig;have HX:=zC (show K.checks x.nd x.l x.ss x.r L=1 by rw [HDR.out];exact K.KL (.inr (by rw [<-eF.out];exact hbig)));rw [hTA];go_upto_region 8 with fail;rw [<-hw3,<-hg];clear hw3 hg c0 c1 c2 c3 hTA b3;obtain ⟨t0,t1,t2,t3⟩:=hB3.cells;go_wp2_with fail;go_ret;exact ⟨by rw [<-HL.out,HX.out];rfl,bel hb1 hb3⟩
   have hd2:decide ((x.sn:Int)<=y.sh)=false:=zI hbig;obtain ⟨s,hs⟩:∃ s:Nat,y.sh=(s:Int):=⟨y.sh.toNat,by omega⟩;have hsn:s < x.sn:=by omega
   obtain ⟨bP,sS,jA,hsS,tN,s0,s1,s2,s3,s4,s5⟩:=((hx.below hb1).below hb3).shifts.at_ hsn;have HST:Hid (K.checks x.nd x.l x.ss x.r L=if y.sh<=last then 5 else if y.t.stops.isEmpty || !(K.check x.nd x.l sS x.r y.t) then 24 else if y.t.stops.any (λk=>served.any (· == k)) then 5 else K.jf x.nd x.l x.ss x.r y.sh (served ++ y.t.stops) (L.drop (k + 1))) :=
    zC (HDR.out.trans (K.X_ (t:=y.pr) (by show 0<=y.sh;omega) (by show x.ss[y.sh.toNat]? = _;rw [hs];exact hsS)))
   have hsm:=zD hsS;have ku:=zC hs;clear hs;rw [hTA,jA];go_upto_region 8 with fail;rw [<-hw3,<-hg];clear hw3 hg c0 c1 c2 c3 hTA b3 HDR hsS jA hneg hbig;obtain ⟨t0,t1,t2,t3⟩:=hB3.cells;by_cases hle:y.sh<=last
   ·have hd3:decide (y.sh<=last)=true:=zH hle;have HX:=zC (show K.checks x.nd x.l x.ss x.r L=5 by rw [HST.out,if_pos hle]);clear s0 s1 s2 s3 s4 s5;go_wp2_with fail;go_ret;exact ⟨by rw [<-HL.out,HX.out];rfl,bel hb1 hb3⟩
   have hd3:decide (y.sh<=last)=false:=zI hle;have qp:=zC (HST.out.trans (if_neg hle));by_cases hn0:y.n=0
   ·have hd4:((y.n:Int) == 0)=true:=by rw [hn0];rfl
    have hd5:decide ((y.n:Int)=0)=true:=by rw [hn0];rfl
    have HX:=zC (show K.checks x.nd x.l x.ss x.r L=24 by
     rw [qp.out,show y.t.stops=[] from List.length_eq_zero_iff.1 (by rw [<-qw.out];exact hn0)];rfl)
    clear s0 s1 s2 s3 s4 s5;go_wp2_with fail;go_quiet (fail);go_wp2_with fail;go_ret;exact ⟨by rw [<-HL.out,HX.out];rfl,bel hb1 (below_drewN hb3 _)⟩
   have hd4:((y.n:Int) == 0)=false:=by simp [hn0]
   have hd5:decide ((y.n:Int)=0)=false:=by simp [hn0]
   have hie:y.t.stops.isEmpty=false:=by
    cases he:y.t.stops with
    | nil=>have h9:=qw.out;rw [he] at h9;exact absurd h9 hn0
    | cons a b=>rfl
   rw [hie,Bool.false_or] at qp;have p0:=ak.cell hN3.c0;have p1:=ak.cell hN3.c1;have q0:=ak.cell t0;have q1:=ak.cell t1;have q2:=ak.cell t2;have q3:=ak.cell t3;have r0:=ak.cell s0;have r1:=ak.cell s1;have r2:=ak.cell s2;have r3:=ak.cell s3;have r4:=ak.cell s4;have r5:=ak.cell s5;have zT:=(hx.below hb1).below hb3;have CT:=λi:ak w3=>al_ (x.one sS) y i.val ((zT.below i.property).case hsm) ⟨tJ.below i.property,y7.below i.property,by omega,Uu⟩ hyn;obtain ⟨cb,hcb⟩:=zB (K.check x.nd x.l sS x.r y.t);have sJ:=zC hcb;rw [<-hcb] at qp;have Dv:∀ i:ak w3,ay 84 #[.agg #[.int .i64 x.nd,.slice x.A x.n x.c],fG sS,.slice x.B x.m x.d,.agg #[.int .i64 y.sh,.slice y.A y.n y.c,.slice y.A' y.n' y.c',.int .i64 y.t.end_]] i.val (bg i.val cb):=λi=>by rw [hcb];exact CT i
   obtain ⟨IK,IL⟩:=zJ (a:=s) (b:=x.sn) (by omega);clear CT hcb hie hle hn0 HST;rw [ku.out] at t0 q0 Dv hd1 hd2 hd3 ⊢;go_upto_region 12 with fail;clear hd1 hd2 hd3;refine fV (by kernel_rfl) (by kernel_rfl) ?_;repeat (go_big_quiet_step ((go_at_call 84;exact ak.calls (Dv _))))
   refine wpQuiet_nil ?_;rintro w4 ⟨⟨w4,b4⟩,rfl⟩;have hB4:=hB3.below b4;have hS4:=hS3.below b4;have hG4:=au b4 hG3;have hb4:=bel hb3 b4;have Bz:=tJ.below b4;have hm4:mp < w4.heap.size:=dO hm3 b4.size;clear p0 p1 q0 q1 q2 q3 r0 r1 r2 r3 r4 r5 s0 s1 s2 s3 s4 s5 t0 t1 t2 t3 Dv hB3 hS3 hG3 hb3 tJ y7 hm3 hN3 hd4 hd5 zT tN IK IL b4;obtain ⟨t0,t1,t2,t3⟩:=hB4.cells;cases cb
   ·have HX:=zC (show K.checks x.nd x.l x.ss x.r L=24 by rw [qp.out];rfl);clear t0 t1 t2 t3;go_wp2_with fail;go_ret;exact ⟨by rw [<-HL.out,HX.out];rfl,bel hb1 hb4⟩
   obtain ⟨-,hst2,hst3⟩:=K.QC sJ.out.symm;have PV:=zC hst3;have HS2:=zC (show ∀ z ∈ y.t.stops,0<=z/\z < (x.m:Int) from λz hz=>by have:=hst2 z hz;have:=aS.out;omega);have yD:=zC (show K.checks x.nd x.l x.ss x.r L=if y.t.stops.any (λk=>served.any (· == k)) then 5 else K.jf x.nd x.l x.ss x.r y.sh (served ++ y.t.stops) (L.drop (k + 1)) by rw [qp.out];rfl);have CC:=af2 (mp + 1) (λk=>served.any (· == k)) y.A y.n y.c y.t.stops w4 Bz (by omega) (λz hz w' hb'=>afR (mp + 1) mp served.length served z w' (au hb' hG4) (hS4.below hb') (E5 (by have:=HS2.out z hz;omega) (by have:=HS2.out z hz;omega)));obtain ⟨db,hdb⟩:=zB (y.t.stops.any (λk=>served.any (· == k)));rw [<-hdb] at CC yD;have JC:=zC hdb;clear qp hst2 hst3 hdb;go_wp2_with fail;refine CC.mono ?_;rintro e w5 ⟨rfl,b5⟩;have jH:=hB4.below b5;have hS5:=hS4.below b5;have ou:=au b5 hG4;have hb5:=bel hb4 b5;have hm5:mp < w5.heap.size:=dO hm4 b5.size;have g_:=Bz.below b5;clear CC t0 t1 t2 t3 hB4 hS4 hG4 hb4 hm4 Bz b5;obtain ⟨t0,t1,t2,t3⟩:=jH.cells;cases db;rotate_left
   ·have HX:=zC (show K.checks x.nd x.l x.ss x.r L=5 by rw [yD.out];rfl);clear t0 t1 t2 t3;go_wp2_with fail;go_ret;exact ⟨by rw [<-HL.out,HX.out];rfl,bel hb1 hb5⟩
   have PX:=zC (show K.checks x.nd x.l x.ss x.r L=K.jf x.nd x.l x.ss x.r y.sh (served ++ y.t.stops) (L.drop (k + 1)) by rw [yD.out];rfl);have hnd:=K.abR hsv.out.1 PV.out JC.out.symm;have hrg:∀ z ∈ served ++ y.t.stops,0<=z/\z < (x.m:Int):=λz hz=>(dX.1 hz).elim (hsv.out.2 z) (HS2.out z);have hlen:=K.ND hnd hrg;rw [cZ] at hlen;have Eu:(served ++ y.t.stops).length<=6:=by rw [cZ];omega
   have Pz:=zC (And.intro hnd hrg);have HLEN:=zC hlen;have hyl:y.n=y.t.stops.length:=g_.1;have hy6:y.n<=6:=by omega
   have JS:=zC hyl;have anB:served.length<=6:=dP;clear yD hnd hrg hlen hyl;go_wp2_with fail;clear t0 t1 t2 t3;go_loopw [73] (λv73 wi=>∃ j:Nat,v73=.int .i64 j/\j<=y.n/\Seen wi mp (served.length + j) (served ++ y.t.stops.take j)/\wi.heap[mp + 1]? = some (.cells #[.map (some mp)] 120 (0,0))/\af w1 wi/\mp < wi.heap.size) (λv73 _=>y.n - (intOf v73).toNat)
   case atStart=>exact ⟨0,rfl,aW _,by rw [List.take_zero,List.append_nil];exact hS5,ou,hb5,hm5⟩
   case round =>
    clear hS5 ou hb5 hm5 jH g_;obtain ⟨j,rfl,hj,LM,hGi,hbi,Ce⟩:=hrel;by_cases Ew:j < y.n
    ·obtain ⟨Ko,z,M_,hz,cz⟩:=((hT.2 y P8.out).1.below (bel hb1 hbi)).at_ Ew;have hwf:(Lit.int .i64 z).wf=true:=by
      have:=HS2.out z (zD hz);exact E5 (by omega) (by omega)
     have HZ:=zC hz;have cG:=ah hGi 0 _ rfl;obtain ⟨kj0,kj1⟩:=zJ (a:=j) (b:=y.n) (by omega);clear hz;rw [M_];go_wp2_with (first
      | (at_mapUpdate;refine wpList_mapUpdate_own _ rfl _ _ _ 120 rfl 3 4 law3 Tryz.underlying120 _ mp (served.length + j) _ rfl LM (by unfold maxLen;omega) _ _ _ rfl rfl (keyOf_int_mk Tryz.underlying3 hwf) _ [] (plainElem_bool Tryz.underlying4 true) ?_;intro w6 hown6 hgrow6)
      | fail)
     have hS6:Seen w6 mp (served.length + (j + 1)) (served ++ y.t.stops.take (j + 1)):=by
      obtain ⟨hk',e⟩:=zE.1 HZ.out;rw [Seen,sV hk',e,<-jb,adM];exact hown6
     have lq:=iV hgrow6 hGi (λe=>by injection e with e;omega);have hb6:af w1 w6:=dY hbi hgrow6 (λg e=>by injection e with e;omega);have ahE:mp < w6.heap.size:=dO Ce hgrow6.size;clear hown6 hgrow6 LM hGi hbi Ce cz cG hwf;go_roundw
     case rel=>(go_light;exact ⟨j + 1,by go_num,Ew,hS6,lq,hb6,ahE⟩)
     case measure=>(go_light;simp [intOf];omega)
    ·have Ef:Seen wr mp (served ++ y.t.stops).length (served ++ y.t.stops):=by
      have h9:=LM;rw [fD (by rw [<-JS.out];omega),show served.length + j=(served ++ y.t.stops).length by rw [cZ,<-JS.out];omega] at h9;exact h9
     clear LM;go_wp2_with fail;go_roundw
     case rel=>(go_light;exact ⟨k + 1,y.sh,served ++ y.t.stops,by go_num,hlt,by rw [ku.out],Ef,hGi,hbi,Pz.out,Eu,PX.out,Ce⟩)
     case measure=>(go_light;simp [intOf];omega)
  ·have HE:=zC (show K.checks x.nd x.l x.ss x.r L=if served.length < x.m then 4 else 0 by
    rw [hck.out,dF (by rw [HL.out,bu,<-AO.out];omega),aS.out];rfl)
   have hsz:=alz hsv.out.1;have cG:=ah hG 0 _ rfl;by_cases hlm:served.length < x.m
   ·obtain ⟨hd,hdn⟩:=zK (a:=served.length) (b:=x.m) (by omega);go_wp2_with (first | (at_len;refine wpList_len_own _ rfl _ 120 rfl 3 4 Tryz.underlying120 _ mp served.length _ rfl hS ?_;rw [hsz]) | fail);go_ret;exact ⟨by rw [<-HL.out,HE.out,if_pos hlm];rfl,bel hb1 hbr⟩
   ·obtain ⟨hd,hdn⟩:=zL (a:=served.length) (b:=x.m) (by omega);go_wp2_with (first | (at_len;refine wpList_len_own _ rfl _ 120 rfl 3 4 Tryz.underlying120 _ mp served.length _ rfl hS ?_;rw [hsz]) | fail);go_ret;exact ⟨by rw [<-HL.out,HE.out,if_neg hlm];rfl,bel hb1 hbr⟩
end
def gZ (w:World) (E:aj) (n:Nat) (l:List Sh):Prop:=aX (λs=>[Sh.val s]) 1 w E n l/\∀ s ∈ l,Ints w s.A s.n s.l/\s.n<=s.c/\(s.A=none->s.n=0/\s.c=0)
theorem gZ.below {w w':World} {E:aj} {n:Nat} {l:List Sh} (h:gZ w E n l) (hb:af w w'):gZ w' E n l:=⟨aX.below h.1 hb,λs hs=>⟨(h.2 s hs).1.below hb,(h.2 s hs).2⟩⟩
theorem gZ.at_ {w:World} {E:aj} {n k:Nat} {l:List Sh} (h:gZ w E n l) (hk:k < n):∃ ad s,E=some ad/\l[k]? = some s/\(Ints w s.A s.n s.l/\s.n<=s.c/\(s.A=none->s.n=0/\s.c=0))/\w.cell? (ad.add k)=some (.slice s.A s.n s.c):=by
 obtain ⟨ad,s,hA,hl,hc⟩:=aX.get (f:=λs=>[Sh.val s]) (s:=1) (λ_=>rfl) h.1 hk;refine ⟨ad,s,hA,hl,h.2 s (zD hl),?_⟩;have:=hc 0 _ (by omega) rfl;rwa [Nat.mul_one,Nat.add_zero] at this
structure BV where
 sh:Int
 V:Option Addr
 vn:Nat
 vc:Nat
 v:List Int
 LA:Option Addr
 ln:Nat
 lc:Nat
 lb:List Lb
def BV.cells (b:BV):List Value:=[.int .i64 b.sh,.slice b.V b.vn b.vc,.slice b.LA b.ln b.lc]
def iZ (w:World) (A:aj) (n:Nat) (l:List BV):Prop:=aX BV.cells 3 w A n l/\∀ b ∈ l,Ints w b.V b.vn b.v/\gY w b.LA b.ln b.lb
theorem iZ.below {w w':World} {A:aj} {n:Nat} {l:List BV} (h:iZ w A n l) (hb:af w w'):iZ w' A n l:=⟨aX.below h.1 hb,λs hs=>⟨(h.2 s hs).1.below hb,aX.below (h.2 s hs).2 hb⟩⟩
theorem iZ.at_ {w:World} {A:aj} {n k:Nat} {l:List BV} (h:iZ w A n l) (hk:k < n) :
  ∃ ad b,A=some ad/\l[k]? = some b/\(Ints w b.V b.vn b.v/\gY w b.LA b.ln b.lb)/\w.cell? (ad.add (k * 3))=some (.int .i64 b.sh)/\w.cell? ⟨(ad.add (k * 3)).block,(ad.add (k * 3)).off + 1,none⟩=some (.slice b.V b.vn b.vc) /\
   w.cell? ⟨(ad.add (k * 3)).block,(ad.add (k * 3)).off + 2,none⟩=some (.slice b.LA b.ln b.lc):=by
 obtain ⟨ad,b,hA,hl,hc⟩:=aX.get (f:=BV.cells) (s:=3) (λ_=>rfl) h.1 hk;refine ⟨ad,b,hA,hl,h.2 b (zD hl),hc 0 _ (by omega) rfl,?_,?_⟩ <;> rw [<-pO _ _ _ (by omega)]
 ·exact hc 1 _ (by omega) rfl
 ·exact hc 2 _ (by omega) rfl
theorem aga (a:aj) (l c:Nat) (w:World):(binOp .eql 97 (.slice a l c) (.slice none 0 0)).run Tryz.prog w=.ok (.bool a.isNone) w:=by
 exact Go.run_eql_slice_nil w 97 48 a l c Tryz.underlying97
theorem afX (E:aj) (n c:Nat) (l:List Sh) (w:World) (hl:gZ w E n l) (hn:n<=1000000) (hE:E=none->n=0/\c=0) :
  ay 145 #[.slice E n c] w λe w'=>(∃ v,e=.returned v/\w'.ownsRow w.heap.size 48 1 v n (l.map Sh.val))/\af w w':=by
 obtain ⟨i0,hi,hz0,hz1,hz2⟩:=info_parts Tryz.info48;have heq:=aga;cases E with
 | none =>
  obtain ⟨rfl,rfl⟩:=hE rfl;go_enter Tryz.func145,Tryz.ntmps145;go_wp2_with fail;go_ret;have hl0:l=[]:=List.length_eq_zero_iff.1 hl.1.1.symm;subst hl0;exact ⟨⟨_,rfl,kF _ _ _ _⟩,ai⟩
 | some ad =>
  have iK:(w.alloc (.cells #[] 48)).ownsRow w.heap.size 48 1 (.slice (some ⟨w.heap.size,0,none⟩) 0 0) 0 []:=World.ownsRow_lit w #[] 0 (zG _) (by simp only [maxLen];omega) (by simp);have hb0:=(dK w).alloc (zG _) (.cells #[] 48);have hR:Rd (w.alloc (.cells #[] 48)) 1 (some ad) n (l.map Sh.val):=by
   have h9:=(aX.below hl.1 hb0).2;have:(l.flatMap λs=>[Sh.val s])=l.map Sh.val:=by
    clear h9 hl;induction l with
    | nil=>rfl
    | cons a l ih=>rw [List.flatMap_cons,ih];rfl
   rwa [this] at h9
  go_enter Tryz.func145,Tryz.ntmps145;go_wp2_with (at_builtin;refine nU rfl (.tmp 5) (.tmp 6) 97 rfl w.heap.size 48 i0 (.slice none 0 0) 1 24 Tryz.underlying97 hi hz0 hz1 hz2 rfl (by decide) _ 0 _ rfl iK (some ad) n c (l.map Sh.val) rfl hR (λu hu=>by obtain ⟨s,-,rfl⟩:=fE.1 hu;rfl) (by simp only [maxLen];omega) (by omega) (by first | (simp;done) | (simp;omega)) ?_;intro v' w4 hown4 hgrow4 uj);rw [Nat.zero_add] at hown4;have hb4:af w w4:=uU hb0 (zG _) hgrow4 (λg h=>(iK.lt g h).1);clear hgrow4 uj;go_wp2_with fail;go_ret;exact ⟨⟨_,rfl,hown4⟩,hb4⟩
def vM (az:List Sh) (b:BV):Bool:=A.part b.v (((az.map Sh.l)[b.sh.toNat]?).getD [])
theorem afw (G:Nat) (E:aj) (n c:Nat) (az:List Sh) (b:BV) (w:World) (hG:w.heap[G]? = some (.cells #[.slice E n c] 97 (0,0))) (hS:gZ w E n az) (hI:Ints w b.V b.vn b.v) (hv:b.vn<=1000000000) (h6:∀ s ∈ az,s.n<=1000000000) (h0:0<=b.sh) (h1:b.sh < (n:Int)) :
  ay 144 #[.agg #[.int .i64 b.sh,.slice b.V b.vn b.vc,.slice b.LA b.ln b.lc],.pointer (some ⟨G,0,none⟩)] w (bg w (vM az b)):=by
 obtain ⟨s,hs⟩:∃ s:Nat,b.sh=(s:Int):=⟨b.sh.toNat,by omega⟩;have hsn:s < n:=by omega
 obtain ⟨ad,sh,hE,hsh,⟨hIs,-,-⟩,cs⟩:=hS.at_ hsn;have HV:=zC (show vM az b=A.part b.v sh.l by unfold vM;rw [hs,kE,dG,hsh];rfl);obtain ⟨r9,gU⟩:=zB (A.part b.v sh.l);have nP:=h6 sh (zD hsh);obtain ⟨w1,hw1⟩:=zB (w.alloc (.cells #[.int .i64 b.sh,.slice b.V b.vn b.vc,.slice b.LA b.ln b.lc] 90));obtain ⟨H,hH⟩:=zB w.heap.size;have b1:=aH hw1;have hB:w1.heap[H]? = some (.cells #[.int .i64 b.sh,.slice b.V b.vn b.vc,.slice b.LA b.ln b.lc] 90 (0,0)):=by rw [hw1,hH];exact aA _ _
 have hG1:=au b1 hG;obtain ⟨k0,k1⟩:=zJ (a:=s) (b:=n) (by omega);have CP:=λi:ak w1=>ace b.V b.vn b.vc b.v sh.A sh.n sh.c sh.l i.val ((hI.below b1).below i.property) hv ((hIs.below b1).below i.property) nP;simp only [<-gU] at CP;have jo:=zC gU;rw [hs] at hB hw1 ⊢;rw [hE] at hG1;have q0:=ak.cell (ah hB 0 _ rfl);have q1:=ak.cell (ah hB 1 _ rfl);have q2:=ak.cell (ah hG1 0 _ rfl);have q3:=ak.cell ((b1.cell (cell_lt cs)).trans cs);clear gU hs h0 h1 hsh cs hE hG hS hI hIs;go_enter Tryz.func144,Tryz.ntmps144;go_upto_region 1 with fail;rw [<-hw1,<-hH];clear hw1 hH;refine fV (by kernel_rfl) (by kernel_rfl) ?_;repeat (go_big_quiet_step ((go_at_call 77;exact ak.calls (CP _))))
 refine wpQuiet_nil ?_;rintro w4 ⟨⟨w4,b4⟩,rfl⟩;go_wp2_with fail;go_ret;exact ⟨by rw [HV.out,<-jo.out];rfl,bel b1 b4⟩
def Jv (bl:List BV) (n:Nat):Prop:=∀ b ∈ bl,(0<=b.sh/\b.sh < (n:Int))/\b.vn<=1000000000
theorem aib (G:Nat) (E:aj) (n c:Nat) (az:List Sh) (BA:aj) (bn bc:Nat) (bl:List BV) (w:World) (hl:iZ w BA bn bl) (hbn:bn<=1000000000) (hG:w.heap[G]? = some (.cells #[.slice E n c] 97 (0,0))) (hS:gZ w E n az) (h6:∀ s ∈ az,s.n<=1000000000) (hok:Jv bl n) :
  ay 193 #[.slice BA bn bc,.func (.func 144) #[] #[.pointer (some ⟨G,0,none⟩)]] w λe w'=>(∃ i:Int,e=.returned (.int .i64 i)/\(decide (0<=i))=bl.any (vM az))/\af w w':=by
 go_enter Tryz.func193,Tryz.ntmps193;go_wp2_with fail;go_loopw [8] (λvi wr=>∃ k:Nat,vi=.int .i64 k/\k<=bn/\Hid (bl.any (vM az)=(bl.drop k).any (vM az))/\af w wr) (λvi _=>bn - (intOf vi).toNat)
 case atStart=>exact ⟨0,rfl,by omega,by show _=_;rw [List.drop_zero],ai⟩
 case round =>
  obtain ⟨k,rfl,hk,hr,hW⟩:=hrel;by_cases hlt:k < bn
  ·obtain ⟨ad,b,rfl,hg,⟨hI,-⟩,c0,c1,c2⟩:=(hl.below hW).at_ hlt;have HS:=zC (oU (p:=vM az) hg);obtain ⟨⟨o1,o2⟩,o3⟩:=hok b (zD hg);have CB:=afw G E n c az b wr (au hW hG) (hS.below hW) hI o3 h6 o1 o2;obtain ⟨r9,gU⟩:=zB (vM az b);rw [<-gU] at CB;have jo:=zC gU;obtain ⟨k0,k1⟩:=zJ (a:=k) (b:=bn) (by omega);clear hg gU hI o1 o2 o3;go_wp2_with fail;refine CB.mono ?_;rintro e w1 ⟨rfl,hW1⟩;have hW2:=bel hW hW1;clear CB;cases r9
   ·go_wp2_with fail;go_roundw
    case rel=>exact ⟨k + 1,by go_num,by omega,by show _=_;rw [hr.out,HS.out,<-jo.out];rfl,hW2⟩
    case measure=>simp [intOf];omega
   ·go_wp2_with fail;go_ret;exact ⟨⟨k,rfl,by rw [hr.out,HS.out,<-jo.out];simp⟩,hW2⟩
  ·have hd:bl.drop k=[]:=dF (by rw [<-hl.1.1];omega);have HD:=zC hd;clear hd;go_wp2_with fail;go_ret;exact ⟨⟨-1,rfl,by rw [hr.out,HD.out];rfl⟩,hW⟩
theorem Ym (G:Nat) (E:aj) (n c:Nat) (az:List Sh) (BA:aj) (bn bc:Nat) (bl:List BV) (w:World) (hl:iZ w BA bn bl) (hbn:bn<=1000000000) (hG:w.heap[G]? = some (.cells #[.slice E n c] 97 (0,0))) (hS:gZ w E n az) (h6:∀ s ∈ az,s.n<=1000000000) (hok:Jv bl n) :
  ay 143 #[.slice BA bn bc,.func (.func 144) #[] #[.pointer (some ⟨G,0,none⟩)]] w (bg w (bl.any (vM az))):=by
 have CI:=aib G E n c az BA bn bc bl w hl hbn hG hS h6 hok;go_enter Tryz.func143,Tryz.ntmps143;go_wp2_with fail;refine CI.mono ?_;rintro e w1 ⟨⟨i,rfl,hi⟩,hb1⟩;go_wp2_with fail;go_ret;exact ⟨by rw [<-hi];rfl,hb1⟩
theorem aao (az:List Sh) (bl:List BV):bl.any (vM az)=A.hit (bl.map λb=>(b.sh.toNat,b.v)) (az.map Sh.l):=by
 unfold A.hit;rw [List.any_map];rfl
namespace A
theorem afB {bl:List (Nat × List Int)} {m:Nat} {i:Int} {sh:List (List Int)}:blocked bl m 0 i sh=hit bl sh:=rfl
theorem afA {bl:List (Nat × List Int)} {m k:Nat} {i:Int} {sh:List (List Int)} (h:hit bl sh=true):blocked bl m k i sh=true:=by
 cases k with
 | zero=>exact h
 | succ k=>rw [blocked,h];rfl
theorem afz {bl:List (Nat × List Int)} {m k:Nat} {i:Int} {sh:List (List Int)} (h:hit bl sh=false):blocked bl m (k + 1) i sh=((List.range m).drop 0).all λs=>blocked bl m k (i + 1) (give sh s i):=by
 rw [blocked,h];rfl
theorem aeV {m s:Nat} {p:Nat->Bool} (hs:s < m) (h:p s=false):((List.range m).drop s).all p=false:=by rw [NW hs,List.all_cons,h];rfl
theorem aeX {m s:Nat} {p:Nat->Bool} (hs:s < m) (h:p s=true):((List.range m).drop s).all p=((List.range m).drop (s + 1)).all p:=by rw [NW hs,List.all_cons,h];rfl
end A
theorem amG {ops:Array Oper} {rest:List Oper} {o:Oper} {a:Act} {w w2:World} {Q:Exit->Act->World->Prop} (hgd:o.guard=none) (s x:Operand)
  (ho:o.op=.call { callee:=.builtin .append,args:=#[s,x],argTypes:=#[48,48] })
  {A:aj} {n:Nat} {l:ag} (hI:Ints w2 A n l) (hA:A=none->n=0) (hs:a.eval s=.slice A n n) (g:Nat) (p:Int) (hx:a.eval x=.slice (some ⟨g,0,none⟩) 1 1)
  (hw:af w2 w) (hg:w.heap[g]? = some (.cells #[.int .i64 p] 3 (0,0))) (hn:n<=1000000)
  (h:∀ B c w',Ints w' (some B) (n + 1) (l ++ [p])->n + 1<=c->af w w'->w.heap.size<=B.block->wpList Tryz.prog ops Q rest (a.put o.dst (.slice (some B) (n + 1) c)) w') :
  wpList Tryz.prog ops Q (o :: rest) a w:=by
 obtain ⟨i0,hi,hz0,hz1,hz2⟩:=info_parts Tryz.info3;have Rj:=hI.below hw;refine wpList_append_grows w hgd s x 48 ho 3 i0 (.int .i64 0) 1 8 Tryz.underlying48 hi hz0 hz1 hz2 rfl (by decide) A n n (intCells l) hs (λe=>⟨hA e,hA e⟩) (by rw [hI.1];simp [intCells]) ?_ ⟨g,0,none⟩ 1 1 [.int .i64 p] hx rfl ?_ (λu hu=>by simp at hu;subst hu;rfl) (by omega) (by simp only [maxLen];omega) (by omega) ?_
 ·intro b e j u hu;have hj:j < n:=by rw [hI.1];have:=(zE.1 hu).1;simpa [intCells] using this
  obtain ⟨ad,y,e',hy,cy⟩:=Rj.at_ hj;rw [e] at e';injection e' with e';subst e';rw [intCells,dG,hy] at hu;injection hu with hu;rw [<-hu];exact cy
 ·intro j u hu;rw [lN];exact ah hg j u (by simpa using hu)
 ·intro v' w' hown hgrow;have hown2:w'.ownsRow w.heap.size 3 1 v' (n + 1) (intCells (l ++ [p])):=by
   rw [EL];exact hown
  have hl:n + 1=(l ++ [p]).length:=by rw [cZ,hI.1];rfl
  have hb:af w w':=⟨hgrow.os,hgrow.tape,hgrow.output,hgrow.size,λk hk=>hgrow.block k hk (λe=>by cases e)⟩;obtain ⟨A',c',e',hI'⟩:=o_ hown2 hl;obtain ⟨-,⟨e,e0⟩ | ⟨g',cap,cur,e,hb',hh,hnc,-⟩⟩:=hown2
  ·omega
  ·rw [e] at e';injection e' with e1 e2 e3;subst e1 e3;rw [e];exact h _ _ w' hI' hnc hb hb'
structure pG (w:World) (g n:Nat) (cur:Array Value) (l:List Sh):Prop where
 blk:w.heap[g]? = some (.cells cur 48 (0,0))
 len:n=l.length
 get:∀ (k:Nat) (s:Sh),l[k]? = some s->cur[k]? = some s.val
theorem pG.below {w w':World} {g n:Nat} {cur:Array Value} {l:List Sh} (h:pG w g n cur l) (hb:af w w'):pG w' g n cur l:=⟨au hb h.blk,h.len,h.get⟩
theorem pG.set {w:World} {g n:Nat} {cur:Array Value} {l:List Sh} (h:pG w g n cur l) {s:Nat} (hs:s < n) (u:Sh):pG (w.setCell ⟨g,s,none⟩ u.val) g n (cur.setIfInBounds s u.val) (l.set s u):=by
 refine ⟨di h.blk s u.val,by rw [List.length_set];exact h.len,λk t hk=>?_⟩;have hl:s < l.length:=by rw [<-h.len];exact hs
 have hcs:s < cur.size:=by
  have:=h.get s l[s] (zF hl);exact (l_.1 this).1
 rw [List.getElem?_set] at hk;rw [Array.getElem?_setIfInBounds];by_cases e:s=k
 ·subst e;rw [if_pos rfl,if_pos hl] at hk;injection hk with hk;rw [if_pos rfl,if_pos hcs,hk]
 ·rw [if_neg e] at hk;rw [if_neg e];exact h.get k t hk
theorem pG.az {w:World} {g n:Nat} {cur:Array Value} {l:List Sh} (h:pG w g n cur l) (hi:∀ s ∈ l,Ints w s.A s.n s.l/\s.n<=s.c/\(s.A=none->s.n=0/\s.c=0)):gZ w (some ⟨g,0,none⟩) n l:=by
 refine ⟨⟨h.len,?_,λh0=>⟨_,rfl,λj u hu=>?_⟩⟩,hi⟩
 ·rw [tH (λs=>[Sh.val s]) 1 (λ_=>rfl),<-h.len]
 ·rw [lN];have e:(l.flatMap λs=>[Sh.val s])=l.map Sh.val:=by
   clear hu h hi h0;induction l with
   | nil=>rfl
   | cons a l ih=>rw [List.flatMap_cons,ih];rfl
  rw [e,dG] at hu;cases hs:l[j]? with
  | none=>rw [hs] at hu;cases hu
  | some s =>
   rw [hs] at hu;injection hu with hu;exact ah h.blk j u (by rw [<-hu];exact h.get j s hs)
theorem adi {w:World} {base n:Nat} {v:Value} {l:List Sh} (h:w.ownsRow base 48 1 v n (l.map Sh.val)) (h0:0 < n):∃ g cap cur,v=.slice (some ⟨g,0,none⟩) n cap/\base<=g/\n<=cap/\pG w g n cur l:=by
 obtain ⟨hl,⟨e,e0⟩ | ⟨g,cap,cur,e,hb,hh,hnc,-,-,ht⟩⟩:=h
 ·omega
 ·refine ⟨g,cap,cur,e,hb,hnc,hh,by simpa using hl.symm,λk s hk=>?_⟩;have hkl:=(zE.1 hk).1;have h9:(cur.toList.take (n * 1))[k]? = some s.val:=by rw [ht,dG,hk];rfl
  rw [List.getElem?_take] at h9;split at h9
  ·simpa using h9
  ·cases h9
theorem afx (BA:aj) (bn bc:Nat) (bl:List BV) (n N:Nat) (hN:N<=6) (hn4:n<=4) (hbn:bn<=1000000000) (hok:Jv bl n):∀ (k i:Nat) (E:aj) (c:Nat) (az:List Sh) (w:World),i + k=N->iZ w BA bn bl->gZ w E n az->(E=none->n=0/\c=0)->Grown az i ->
  ay 89 #[.slice BA bn bc,.slice E n c,.int .i64 i,.int .i64 N] w (bg w (A.blocked (bl.map λb=>(b.sh.toNat,b.v)) n k i (az.map Sh.l))):=by
 intro k;induction k with
 | zero =>
  intro i E c az w hi hl hS hE hgr;have h6:∀ s ∈ az,s.n<=1000000000:=λs hs=>by
   obtain ⟨h1,h2,-⟩:=hgr s hs;obtain ⟨m6,h6⟩:=K.Jj h1 λy hy=>by have:=h2 y hy;omega
   rw [(hS.2 s hs).1.1];have:=h6.len;omega
  have b0:af w (w.alloc (.cells #[.slice E n c] 97)):=ai.alloc (zG _) _;have CC:=Ym w.heap.size E n c az BA bn bc bl _ (hl.below b0) hbn (aA w _) (hS.below b0) h6 hok;rw [aao] at CC;have HZ:=zC (A.afB (bl:=bl.map λb=>(b.sh.toNat,b.v)) (m:=n) (i:=(i:Int)) (sh:=az.map Sh.l));obtain ⟨hb,hhb⟩:=zB (A.hit (bl.map λb=>(b.sh.toNat,b.v)) (az.map Sh.l));rw [<-hhb] at CC HZ;have hd:decide ((i:Int)=(N:Int))=true:=by simp;omega
  have hd2:((i:Int) == (N:Int))=true:=by simp;omega
  have hd3:decide (i=N)=true:=by simp;omega
  have hd4:(i == N)=true:=by simp;omega
  have hdi:i=N:=by omega
  clear hhb hi;go_enter Tryz.func89,Tryz.ntmps89;go_wp2_with fail;refine CC.mono ?_;rintro e w1 ⟨rfl,hb1⟩;have hb2:=bel b0 hb1;cases hb
  ·go_wp2_with fail;go_ret;exact ⟨by rw [HZ.out];rfl,hb2⟩
  ·go_wp2_with fail;go_ret;exact ⟨by rw [HZ.out];rfl,hb2⟩
 | succ k ih =>
  intro i E c az w hi hl hS hE hgr;have Y1:∀ s ∈ az,s.n<=6:=λs hs=>by
   obtain ⟨h1,h2,-⟩:=hgr s hs;obtain ⟨m6,h6⟩:=K.Jj h1 λy hy=>by have:=h2 y hy;omega
   rw [(hS.2 s hs).1.1];exact h6.len
  have h6:∀ s ∈ az,s.n<=1000000000:=λs hs=>by have:=Y1 s hs;omega
  obtain ⟨w1,hw1⟩:=zB (w.alloc (.cells #[.slice E n c] 97));obtain ⟨G,hG⟩:=zB w.heap.size;have b0:=aH hw1;have hG1:w1.heap[G]? = some (.cells #[.slice E n c] 97 (0,0)):=by rw [hw1,hG];exact aA _ _
  have CC:=Ym G E n c az BA bn bc bl w1 (hl.below b0) hbn hG1 (hS.below b0) h6 hok;rw [aao] at CC;obtain ⟨P,hP⟩:=zB (bl.map λb=>(b.sh.toNat,b.v));rw [<-hP] at CC ih ⊢;obtain ⟨R,hR⟩:=zB (A.blocked P n (k + 1) i (az.map Sh.l));have HR:=zC hR;have JH:=zC (λh:A.hit P (az.map Sh.l)=true=>A.afA (m:=n) (k:=k + 1) (i:=i) h);have qU:=zC (λh:A.hit P (az.map Sh.l)=false=>A.afz (m:=n) (k:=k) (i:=i) h);obtain ⟨hb,hhb⟩:=zB (A.hit P (az.map Sh.l));rw [<-hhb] at CC JH qU;rw [<-hR];have hd:decide ((i:Int)=(N:Int))=false:=by simp;omega
  have hd2:((i:Int) == (N:Int))=false:=by simp;omega
  have hd3:decide (i=N)=false:=by simp;omega
  have hd4:(i == N)=false:=by simp;omega
  have hiN:i < N:=by omega
  have HHI:=zC hi;clear hhb hR hP hi;go_enter Tryz.func89,Tryz.ntmps89;go_wp2_with fail;rw [<-hw1,<-hG];clear hw1 hG;refine CC.mono ?_;rintro e w2 ⟨rfl,hb1⟩;have hb2:=bel b0 hb1;have hG2:=au hb1 hG1;clear CC hG1 hb1 b0;cases hb;rotate_left
  ·have j_:=zC (show R=true from HR.out.trans (JH.out rfl));clear JH qU HR;go_wp2_with fail;go_ret;exact ⟨by rw [j_.out];rfl,hb2⟩
  have FQ:=zC (show R=_ from HR.out.trans (qU.out rfl));clear JH qU HR;have cG:=ah hG2 0 _ rfl;go_wp2_with fail;clear cG hd hd2 hd3 hd4;go_loopw [19] (λv19 wr=>∃ s:Nat,v19=.int .i64 s/\s<=n/\af w2 wr/\Hid (R=((List.range n).drop s).all λs=>A.blocked P n k (i + 1) (A.give (az.map Sh.l) s i))) (λv19 _=>n - (intOf v19).toNat)
  case atStart=>exact ⟨0,rfl,aW _,ai,FQ.out⟩
  case round =>
   obtain ⟨s,rfl,hs,hbr,hrr⟩:=hrel;by_cases hlt:s < n
   ·have hbw:=bel hb2 hbr;obtain ⟨ade,sh,hEe,hsh,⟨hI,hnc,hAn⟩,cs⟩:=(hS.below hbw).at_ hlt;have nP:=Y1 sh (zD hsh);have uZ:=au hbr hG2;have cG:=ah uZ 0 _ rfl;have CL:=afX E n c az wr (hS.below hbw) (by omega) hE;have qo:=zC hsh;have HEE:=zC hEe;obtain ⟨k0,k1⟩:=zJ (a:=s) (b:=n) (by omega);clear hsh hEe;go_wp2_with fail;refine CL.mono ?_;rintro e w3 ⟨⟨v10,rfl,hown⟩,b3⟩;obtain ⟨g,cap,cur,rfl,hgb,hncap,hrow⟩:=adi hown (by omega);have Zp:=hI.below b3;have Zg:=au b3 uZ;have cG3:w3.cell? ⟨G,0,none⟩=some (.slice (some ade) n c):=by rw [<-HEE.out];exact ah Zg 0 _ rfl
    have cs3:=(b3.cell (cell_lt cs)).trans cs;have hA0:sh.A=none->sh.n=0:=λe=>(hAn e).1;have Gt:af w3 (w3.alloc (.cells #[.int .i64 (i:Int)] 3)):=ai.alloc (zG _) _;have Ez:sh.n<=1000000:=by omega
    clear CL cG cs hown hI uZ;go_wp2_with (first
     | (go_at_call 124;refine (Yl sh.A sh.n sh.c _ hnc hAn).mono ?_;rintro e w9 ⟨rfl,rfl⟩)
     | (at_builtin;refine amG rfl (.tmp 30) (.tmp 32) rfl Zp hA0 rfl w3.heap.size (i:Int) rfl Gt (aA w3 _) Ez ?_;intro B c9 w9 jI lV ji nK;have Iu:=hrow.below (bel Gt ji);have cg:=ah Iu.blk s _ (Iu.get s sh qo.out);have fg:=b_ Iu.blk)
     | fail)
    obtain ⟨u,hu⟩:∃ u:Sh,u=⟨some B,sh.n + 1,c9,sh.l ++ [(i:Int)]⟩:=⟨_,rfl⟩;obtain ⟨wa,qf⟩:=zB (w9.setCell ⟨g,s,none⟩ (.slice (some B) (sh.n + 1) c9));have hwg:w2.heap.size<=g:=aN hbr.size hgb;have Uj:af w2 wa:=by rw [qf];exact (bel (bel hbr b3) (bel Gt ji)).setCell hwg _
    have hra:pG wa g n (cur.setIfInBounds s u.val) (az.set s u):=by rw [qf];have h:=Iu.set hlt u;rw [hu] at h ⊢;exact h
    have hwS:∀ t ∈ az,Ints wa t.A t.n t.l/\t.n<=t.c/\(t.A=none->t.n=0/\t.c=0):=λt ht=>⟨(hS.2 t ht).1.below (bel hb2 Uj),(hS.2 t ht).2⟩;have Ll:Ints wa (some B) (sh.n + 1) (sh.l ++ [(i:Int)]):=by
     rw [qf];refine jI.set1 _ λh0 ad e=>?_;injection e with e;rw [<-e];have h1:=lt_of_block hrow.blk;have h2:=Gt.size;omega
    have hsa:gZ wa (some ⟨g,0,none⟩) n (az.set s u):=hra.az λt ht=>by
     rcases List.mem_or_eq_of_mem_set ht with ht | ht
     ·exact hwS t ht
     ·rw [ht,hu];exact ⟨Ll,lV,λe=>(nomatch e)⟩
    have hgu:Grown (az.set s u) (i + 1):=by rw [hu];exact hgr.give qo.out B _ _
    obtain ⟨ii,hii⟩:=zB (i + 1);have anm:ii<=N:=by omega
    have CI:=ih ii (some ⟨g,0,none⟩) cap (az.set s u) wa (by have:=HHI.out;omega) (hl.below (bel hb2 Uj)) hsa (λe=>(nomatch e)) (by rw [hii];exact hgu);have hgv:(az.set s u).map Sh.l=A.give (az.map Sh.l) s i:=by
     unfold A.give;rw [dG,qo.out,List.map_set,hu];rfl
    rw [hgv,show (ii:Int)=(i:Int) + 1 by omega] at CI;obtain ⟨r9,gU⟩:=zB (A.blocked P n k ((i:Int) + 1) (A.give (az.map Sh.l) s i));rw [<-gU] at CI;have jo:=zC gU;rw [<-qf];clear gU hgv hii hgu hsa Ll hwS hra qf Iu cg fg jI ji nK hrow Zp Zg cG3 cs3 Gt hu;refine CI.mono ?_;rintro e wc ⟨rfl,hbc⟩;have hbn:=bel Uj hbc;clear CI;cases r9
    ·have HE:=zC (show R=false by rw [hrr.out];exact A.aeV hlt jo.out.symm);clear hrr;go_wp2_with fail;go_ret;exact ⟨by rw [HE.out];rfl,bel hb2 hbn⟩
    ·have bH:=zC (hrr.out.trans (A.aeX hlt jo.out.symm));clear hrr;go_wp2_with fail;go_roundw
     case rel=>(go_light;exact ⟨s + 1,by go_num,hlt,hbn,bH.out⟩)
     case measure=>(go_light;simp [intOf];omega)
   ·have HE:=zC (show R=true by rw [hrr.out,dF (by rw [List.length_range];omega)];rfl);clear hrr;go_wp2_with fail;go_ret;exact ⟨by rw [HE.out];rfl,bel hb2 hbr⟩
def BV.pr (b:BV):Int × List Int × List Lb:=(b.sh,b.v,b.lb)
def Ak (bn:Nat) (bl:List BV):Prop:=bn<=1000000000/\∀ b ∈ bl,b.vn<=b.vc/\b.vn<=1000000000/\b.ln<=1000000000
namespace K
section
variable {nd : Int} {l : List Ro} {ss : List S} {r : List Q} {bl : List (Int × List Int × List Lb)}
theorem acM (h:bK nd l ss r ≠ 0):refutes nd l ss r bl=false:=by simp [refutes,h]
theorem acO (h:¬ bl.length<=200):refutes nd l ss r bl=false:=by simp [refutes,h]
theorem acN (h:bK nd l ss r=0) (h2:bl.length<=200):refutes nd l ss r bl=((bl.drop 0).all (kS nd l ss r) && A.blocked (bl.map λb=>(b.1.toNat,b.2.1)) ss.length r.length 0 (List.replicate ss.length [])):=by
 unfold refutes;rw [h,zH h2];rfl
theorem XE {α:Type} {p:α->Bool} {bl:List α} {k:Nat} {b:α} (h:bl[k]? = some b):(bl.drop k).all p=(p b && (bl.drop (k + 1)).all p):=by rw [D7 h,List.all_cons]
theorem U1 {b:Int × List Int × List Lb} (h:b.1 < 0\/(ss.length:Int)<=b.1):kS nd l ss r b=false:=by
 unfold kS;by_cases hn:b.1 < 0
 ·rw [if_pos hn]
 ·rw [if_neg hn,lK (by omega)]
theorem abW {b:Int × List Int × List Lb} {x:S} (h0:0<=b.1) (hx:ss[b.1.toNat]? = some x):kS nd l ss r b=blocks nd l x r b.2.1 b.2.2:=by
 unfold kS;rw [if_neg (by omega),hx]
end
end K
theorem akt (x:Cs) (BA:aj) (bn bc:Nat) (bl:List BV) (w:World) (hx:eu w x) (hB:iZ w BA bn bl) (hF:Ak bn bl) :
  ay 28 #[.agg #[.int .i64 x.nd,.slice x.A x.n x.c],.slice x.SA x.sn x.sc,.slice x.B x.m x.d,.slice BA bn bc] w (bg w (K.refutes x.nd x.l x.ss x.r (bl.map BV.pr))):=by
 have hN:=Net.new w x.nd x.A x.n x.c;have p0:=hN.c0;have p1:=hN.c1;have b0:af w (w.alloc (.cells #[.int .i64 x.nd,.slice x.A x.n x.c] 24)):=ai.alloc (zG _) _;obtain ⟨R,hR⟩:=zB (K.refutes x.nd x.l x.ss x.r (bl.map BV.pr));have HR:=zC hR;rw [<-hR];clear hR;have jP:=zC hB.1.1;obtain ⟨vC,hbs⟩:=hF;go_enter Tryz.func28,Tryz.ntmps28;go_wp2_with fail;refine (Qz x _ (hx.below b0)).mono ?_;obtain ⟨ce,hce⟩:=zB (K.bK x.nd x.l x.ss x.r);rw [<-hce];rintro e w1 ⟨rfl,b1⟩;have hN1:=hN.below b1;have hb1:=bel b0 b1;clear p0 p1 b0 b1 hN;by_cases hz:ce=0;rotate_left
 ·have HX:=zC (show R=false by rw [HR.out];exact K.acM (by rw [<-hce];exact hz));have hd:(ce != 0)=true:=by simp [bne,hz]
  clear hce;go_wp2_with fail;go_ret;exact ⟨by rw [HX.out];rfl,hb1⟩
 subst hz;have aY:=zC hce.symm;clear hce;have eF:=zC hx.shifts.1.1;have aS:=zC hx.bf.1;have o6:x.m<=6:=by rw [aS.out];exact (K.kT aY.out).2.2.2.2
 have uw:x.sn<=4:=by rw [eF.out];exact (K.kT aY.out).2.1
 by_cases Ey:bn<=200;rotate_left
 ·have hd1:decide ((200:Int) < (bn:Int))=true:=by simp;omega
  have hd2:decide (200 < bn)=true:=by simp;omega
  have HX:=zC (show R=false by rw [HR.out];exact K.acO (by rw [bu,<-jP.out];exact Ey));go_wp2_with fail;go_ret;exact ⟨by rw [HX.out];rfl,hb1⟩
 have hd1:decide ((200:Int) < (bn:Int))=false:=by simp;omega
 have hd2:decide (200 < bn)=false:=by simp;omega
 obtain ⟨P,hP⟩:=zB (bl.map λb=>(b.sh.toNat,b.v));have Ed:((bl.map BV.pr).map λb=>(b.1.toNat,b.2.1))=P:=by rw [hP,List.map_map];rfl
 have qU:=zC (show R=(((bl.map BV.pr).drop 0).all (K.kS x.nd x.l x.ss x.r) && A.blocked P x.sn x.m 0 (List.replicate x.sn [])) by
  rw [HR.out,K.acN aY.out (by rw [bu,<-jP.out];exact Ey),Ed,eF.out,aS.out])
 have HP:=zC hP;obtain ⟨L,hL⟩:=zB (bl.map BV.pr);rw [<-hL] at qU;have HL:=zC hL;clear hP Ed hL;go_wp2_with fail;clear hd1 hd2;go_loopw [23] (λv23 wr=>∃ k:Nat,v23=.int .i64 k/\k<=bn/\af w1 wr/\Hid (R=((L.drop k).all (K.kS x.nd x.l x.ss x.r) && A.blocked P x.sn x.m 0 (List.replicate x.sn [])))/\Hid (∀ (j:Nat) (b:BV),j < k->bl[j]? = some b->0<=b.sh/\b.sh < (x.sn:Int))) (λv23 _=>bn - (intOf v23).toNat)
 case atStart=>exact ⟨0,rfl,aW _,ai,qU.out,λj b h=>absurd h (by omega)⟩
 case round =>
  obtain ⟨k,rfl,hk,hbr,hrr,hrg⟩:=hrel;by_cases hlt:k < bn
  ·obtain ⟨ad,y,m_,hy,⟨hI1,hI2⟩,c0,c1,c2⟩:=(hB.below (bel hb1 hbr)).at_ hlt;obtain ⟨hv1,hv2,hv3⟩:=hbs y (zD hy);have hLk:L[k]? = some y.pr:=by rw [HL.out,dG,hy];rfl
   have HDR:=zC (show R=((K.kS x.nd x.l x.ss x.r y.pr && (L.drop (k + 1)).all (K.kS x.nd x.l x.ss x.r)) && A.blocked P x.sn x.m 0 (List.replicate x.sn [])) by rw [hrr.out,K.XE hLk]);have HY:=zC hy;obtain ⟨k0,k1⟩:=zJ (a:=k) (b:=bn) (by omega);obtain ⟨g,hg⟩:=zB wr.heap.size;obtain ⟨w3,hw3⟩:=zB (wr.alloc (.cells #[.int .i64 y.sh,.slice y.V y.vn y.vc,.slice y.LA y.ln y.lc] 90));have b3:=aH hw3;have hB3:w3.heap[g]? = some (.cells #[.int .i64 y.sh,.slice y.V y.vn y.vc,.slice y.LA y.ln y.lc] 90 (0,0)):=by rw [hw3,hg];exact aA _ _
   have hb3:=bel hbr b3;have tJ:=hI1.below b3;have y7:=aX.below hI2 b3;have hN3:=hN1.below hb3;clear hy hLk hrr hI1 hI2 hbr;by_cases hbad:y.sh < 0\/(x.sn:Int)<=y.sh
   ·have HX:=zC (show R=false by rw [HDR.out,K.U1 (b:=y.pr) (by rw [<-eF.out];exact hbad)];rfl);rw [m_];go_upto_region 6 with fail;rw [<-hw3,<-hg];clear hw3 hg c0 c1 c2 m_ b3;have t0:=ah hB3 0 _ rfl;have t1:=ah hB3 1 _ rfl;have t2:=ah hB3 2 _ rfl;by_cases hneg:y.sh < 0
    ·have hd1:decide (y.sh < 0)=true:=zH hneg;clear hbad;go_quiet (fail);go_wp2_with fail;go_ret;exact ⟨by rw [HX.out];rfl,bel hb1 (below_drewN hb3 _)⟩
    ·have hd1:decide (y.sh < 0)=false:=zI hneg;have hd2:decide ((x.sn:Int)<=y.sh)=true:=zH (hbad.resolve_left hneg);clear hbad;go_quiet (fail);go_wp2_with fail;go_ret;exact ⟨by rw [HX.out];rfl,bel hb1 (below_drewN hb3 _)⟩
   obtain ⟨hneg,hbig⟩:=not_or.1 hbad;obtain ⟨s,hs⟩:∃ s:Nat,y.sh=(s:Int):=⟨y.sh.toNat,by omega⟩;have hsn:s < x.sn:=by omega
   obtain ⟨bP,sS,jA,hsS,tN,s0,s1,s2,s3,s4,s5⟩:=((hx.below hb1).below hb3).shifts.at_ hsn;have FN:=zC (K.abW (nd:=x.nd) (l:=x.l) (r:=x.r) (b:=y.pr) (show 0<=y.sh by omega) (show x.ss[y.sh.toNat]? = some sS by rw [hs];exact hsS));have hsm:=zD hsS;have FQ:=zC (show ∀ (j:Nat) (b:BV),j < k + 1->bl[j]? = some b->0<=b.sh/\b.sh < (x.sn:Int) from λj b hj hb=>by
    by_cases e:j=k
    ·rw [e,HY.out] at hb;injection hb with hb;rw [<-hb,hs];omega
    ·exact hrg.out j b (by omega) hb)
   have ku:=zC hs;clear hs hsS hbad hneg hbig hrg;rw [m_,jA];go_upto_region 6 with fail;rw [<-hw3,<-hg];clear hw3 hg c0 c1 c2 m_ jA b3;have q0:=ak.cell (ah hB3 0 _ rfl);have q1:=ak.cell (ah hB3 1 _ rfl);have q2:=ak.cell (ah hB3 2 _ rfl);have p0:=ak.cell hN3.c0;have p1:=ak.cell hN3.c1;have r0:=ak.cell s0;have r1:=ak.cell s1;have r2:=ak.cell s2;have r3:=ak.cell s3;have r4:=ak.cell s4;have r5:=ak.cell s5;have zT:=(hx.below hb1).below hb3;obtain ⟨cb,hcb⟩:=zB (K.blocks x.nd x.l sS x.r y.v y.lb);have CT:∀ i:ak w3,ay 88 #[.agg #[.int .i64 x.nd,.slice x.A x.n x.c],fG sS,.slice x.B x.m x.d,.agg #[.int .i64 y.sh,.slice y.V y.vn y.vc,.slice y.LA y.ln y.lc]] i.val (bg i.val cb):=λi=>by
    rw [hcb];exact afE (x.one sS) y.sh y.V y.vn y.vc y.v y.LA y.ln y.lc y.lb i.val ((zT.below i.property).case hsm) (tJ.below i.property) hv1 hv2 (aX.below y7 i.property) hv3
   have sJ:=zC (show K.kS x.nd x.l x.ss x.r y.pr=cb by rw [FN.out,hcb];rfl);obtain ⟨IK,IL⟩:=zJ (a:=s) (b:=x.sn) (by omega);have kd1:decide ((s:Int) < 0)=false:=by simp
   obtain ⟨xM,kd3⟩:=zN (a:=x.sn) (b:=s) (by omega);rw [ku.out] at q0 CT;clear hcb FN hN3 hB3 s0 s1 s2 s3 s4 s5 zT tN hsm;refine fV (by kernel_rfl) (by kernel_rfl) ?_;repeat (go_big_quiet_step ((go_at_call 88;exact ak.calls (CT _))))
   refine wpQuiet_nil ?_;rintro w4 ⟨⟨w4,b4⟩,rfl⟩;have hb4:=bel hb3 b4;clear q0 q1 q2 p0 p1 r0 r1 r2 r3 r4 r5 CT tJ y7 b4 hb3;cases cb
   ·have HX:=zC (show R=false by rw [HDR.out,sJ.out];rfl);go_wp2_with fail;go_ret;exact ⟨by rw [HX.out];rfl,bel hb1 hb4⟩
   ·have bH:=zC (show R=((L.drop (k + 1)).all (K.kS x.nd x.l x.ss x.r) && A.blocked P x.sn x.m 0 (List.replicate x.sn [])) by rw [HDR.out,sJ.out,Bool.true_and]);go_wp2_with fail;go_roundw
    case rel=>(go_light;exact ⟨k + 1,by go_num,hlt,hb4,bH.out,FQ.out⟩)
    case measure=>(go_light;simp [intOf];omega)
  ·have HE:=zC (show R=A.blocked P x.sn x.m 0 (List.replicate x.sn []) by rw [hrr.out,dF (by rw [HL.out,bu,<-jP.out];omega)];rfl);have hok:Jv bl x.sn:=λb hb=>by
    obtain ⟨j,hj,e⟩:=List.getElem_of_mem hb;exact ⟨hrg.out j b (by have:=jP.out;omega) (by rw [zF hj,e]),(hbs b hb).2.1⟩
   have hmk:=λw'=>Nv x.sn (by omega) w';obtain ⟨w5,hw5⟩:=zB (wr.alloc (.cells (List.replicate x.sn (Value.slice none 0 0)).toArray 48));have b5:=aH hw5;have hrow:pG w5 wr.heap.size x.sn (List.replicate x.sn (Value.slice none 0 0)).toArray (List.replicate x.sn ⟨none,0,0,[]⟩):=by
    refine ⟨by rw [hw5];exact aA _ _,by simp,λj t ht=>?_⟩;have hm:=List.eq_of_mem_replicate (zD ht);have hj:=(zE.1 ht).1;rw [List.length_replicate] at hj;rw [hm];simp [hj,Sh.val]
   have Iw:=hrow.az λt ht=>by rw [List.eq_of_mem_replicate ht];exact ⟨iQ _,zG _,λ_=>⟨rfl,rfl⟩⟩
   have CB:=afx BA bn bc bl x.sn x.m o6 uw vC hok x.m 0 (some ⟨wr.heap.size,0,none⟩) x.sn _ w5 (by omega) (hB.below (bel (bel hb1 hbr) b5)) Iw (λe=>(nomatch e)) (λt ht=>by rw [List.eq_of_mem_replicate ht];exact ⟨List.Pairwise.nil,λy hy=>(by cases hy),λ_=>⟨rfl,rfl⟩⟩);rw [show (List.replicate x.sn (⟨none,0,0,[]⟩:Sh)).map Sh.l=List.replicate x.sn [] by rw [List.map_replicate],<-HP.out,show ((0:Nat):Int)=0 from rfl,<-HE.out] at CB;clear hrr hrg hok hrow Iw;go_wp2_with fail;rw [hw5] at CB b5;refine CB.mono ?_;rintro e w6 ⟨rfl,b6⟩;go_wp2_with fail;go_ret;exact ⟨rfl,bel hb1 (bel (bel hbr b5) b6)⟩
end Go.Proofs.YtippdjmpkafifaaGreat
