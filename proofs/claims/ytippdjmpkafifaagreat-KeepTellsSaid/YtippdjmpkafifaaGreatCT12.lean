import Derived.Test.YtippdjmpkafifaaGreatCT11
set_option maxRecDepth 100000
set_option maxHeartbeats 64000000
namespace Go.Proofs.YtippdjmpkafifaaGreat
open Go.RowKit
theorem afV (A:Option Addr) (n c:Nat) (l:List Int) (x:Int) (w:World) (hl:Ints w A n l) (hn:n<=1000000000) :
  Calls Tryz.prog 153 #[.slice A n c,.int .i64 x] w λe w'=>(∃ i:Int,e=.returned (.int .i64 i)/\(decide (0<=i))=l.any (· == x))/\Below w.heap.size w w':=by
 go_enter Tryz.func153,Tryz.ntmps153;go_wp2_with fail;go_loopw [8] (λvi wr=>∃ k:Nat,vi=.int .i64 k/\k<=n/\Hid (l.any (· == x)=(l.drop k).any (· == x))/\Below w.heap.size w wr) (λvi _=>n - (intOf vi).toNat)
 case atStart=>exact ⟨0,rfl,by omega,by show _=_;rw [List.drop_zero],Below.refl _ _⟩
 case round =>
  obtain ⟨k,rfl,hk,hr,hW⟩:=hrel;by_cases hlt:k < n
  ·obtain ⟨ad,y,rfl,hg,c0⟩:=(hl.below hW).at_ hlt;have HS:=zC (lJ (p:=(· == x)) hg);have k0:(0:Int)<=(k:Int):=by omega
   have k1:(k:Int) < (n:Int):=by omega
   clear hg;by_cases hxy:x=y
   ·have hd1:decide (x=y)=true:=zH hxy;have hd2:(x == y)=true:=beq_iff_eq.2 hxy;have fZ:=zC (show (y == x)=true from beq_iff_eq.2 hxy.symm);clear hxy;go_wp2_with fail;go_ret;exact ⟨⟨k,rfl,by rw [hr.out,HS.out,fZ.out];simp⟩,hW⟩
   ·have hd1:decide (x=y)=false:=zI hxy;have hd2:(x == y)=false:=beq_eq_false_iff_ne.2 hxy;have fZ:=zC (show (y == x)=false from beq_eq_false_iff_ne.2 λe=>hxy e.symm);clear hxy;go_wp2_with fail;go_roundw
    case rel=>exact ⟨k + 1,by go_num,by omega,by show _=_;rw [hr.out,HS.out,fZ.out];rfl,hW⟩
    case measure=>simp [intOf];omega
  ·have hd:l.drop k=[]:=List.drop_eq_nil_of_le (by rw [<-hl.1];omega);have HD:=zC hd;clear hd;go_wp2_with fail;go_ret;exact ⟨⟨-1,rfl,by rw [hr.out,HD.out];rfl⟩,hW⟩
theorem NC (A:Option Addr) (n c:Nat) (l:List Int) (x:Int) (w:World) (hl:Ints w A n l) (hn:n<=1000000000) :
  Calls Tryz.prog 108 #[.slice A n c,.int .i64 x] w λe w'=>e=.returned (.bool (l.any (· == x)))/\Below w.heap.size w w':=by
 have CI:=afV A n c l x w hl hn;go_enter Tryz.func108,Tryz.ntmps108;go_wp2_with fail;refine CI.mono ?_;rintro e w1 ⟨⟨i,rfl,hi⟩,hb1⟩;go_wp2_with fail;go_ret;exact ⟨by rw [<-hi];rfl,hb1⟩
theorem afZ (G:Nat) (p:Int->Bool) (A:Option Addr) (n c:Nat) (l:List Int) (w:World) (hl:Ints w A n l) (hn:n<=1000000000) (CF:∀ x ∈ l,∀ w',Below w.heap.size w w'->Calls Tryz.prog 127 #[.int .i64 x,.pointer (some ⟨G,0,none⟩)] w' λe w''=>e=.returned (.bool (p x))/\Below w'.heap.size w' w'') :
  Calls Tryz.prog 136 #[.slice A n c,.func (.func 127) #[] #[.pointer (some ⟨G,0,none⟩)]] w λe w'=>(∃ i:Int,e=.returned (.int .i64 i)/\(decide (0<=i))=l.any p)/\Below w.heap.size w w':=by
 go_enter Tryz.func136,Tryz.ntmps136;go_wp2_with fail;go_loopw [8] (λvi wr=>∃ k:Nat,vi=.int .i64 k/\k<=n/\Hid (l.any p=(l.drop k).any p)/\Below w.heap.size w wr) (λvi _=>n - (intOf vi).toNat)
 case atStart=>exact ⟨0,rfl,by omega,by show _=_;rw [List.drop_zero],Below.refl _ _⟩
 case round =>
  obtain ⟨k,rfl,hk,hr,hW⟩:=hrel;by_cases hlt:k < n
  ·obtain ⟨ad,x,rfl,hg,c0⟩:=(hl.below hW).at_ hlt;have HS:=zC (lJ (p:=p) hg);have CB:=CF x (zD hg) wr hW;obtain ⟨r9,b_⟩:=zB (p x);try rw [show p x=r9 from b_.symm] at CB
   have fZ:=zC b_;have k0:(0:Int)<=(k:Int):=by omega
   have k1:(k:Int) < (n:Int):=by omega
   clear hg b_;go_wp2_with fail;refine CB.mono ?_;rintro e w1 ⟨rfl,hW1⟩;have hW2:=bel hW hW1;clear CB;cases r9
   ·go_wp2_with fail;go_roundw
    case rel=>exact ⟨k + 1,by go_num,by omega,by show _=_;rw [hr.out,HS.out,<-fZ.out];rfl,hW2⟩
    case measure=>simp [intOf];omega
   ·go_wp2_with fail;go_ret;exact ⟨⟨k,rfl,by rw [hr.out,HS.out,<-fZ.out];simp⟩,hW2⟩
  ·have hd:l.drop k=[]:=List.drop_eq_nil_of_le (by rw [<-hl.1];omega);have HD:=zC hd;clear hd;go_wp2_with fail;go_ret;exact ⟨⟨-1,rfl,by rw [hr.out,HD.out];rfl⟩,hW⟩
theorem adX (G:Nat) (p:Int->Bool) (A:Option Addr) (n c:Nat) (l:List Int) (w:World) (hl:Ints w A n l) (hn:n<=1000000000) (CF:∀ x ∈ l,∀ w',Below w.heap.size w w'->Calls Tryz.prog 127 #[.int .i64 x,.pointer (some ⟨G,0,none⟩)] w' λe w''=>e=.returned (.bool (p x))/\Below w'.heap.size w' w'') :
  Calls Tryz.prog 85 #[.slice A n c,.func (.func 127) #[] #[.pointer (some ⟨G,0,none⟩)]] w λe w'=>e=.returned (.bool (l.any p))/\Below w.heap.size w w':=by
 have CI:=afZ G p A n c l w hl hn CF;go_enter Tryz.func85,Tryz.ntmps85;go_wp2_with fail;refine CI.mono ?_;rintro e w1 ⟨⟨i,rfl,hi⟩,hb1⟩;go_wp2_with fail;go_ret;exact ⟨by rw [<-hi];rfl,hb1⟩
theorem afY (G:Nat) (p:Int->Bool) (A:Option Addr) (n c:Nat) (l:List Int) (w:World) (hl:Ints w A n l) (hn:n<=1000000000) (CF:∀ x ∈ l,∀ w',Below w.heap.size w w'->Calls Tryz.prog 86 #[.int .i64 x,.pointer (some ⟨G,0,none⟩)] w' λe w''=>e=.returned (.bool (p x))/\Below w'.heap.size w' w'') :
  Calls Tryz.prog 136 #[.slice A n c,.func (.func 86) #[] #[.pointer (some ⟨G,0,none⟩)]] w λe w'=>(∃ i:Int,e=.returned (.int .i64 i)/\(decide (0<=i))=l.any p)/\Below w.heap.size w w':=by
 go_enter Tryz.func136,Tryz.ntmps136;go_wp2_with fail;go_loopw [8] (λvi wr=>∃ k:Nat,vi=.int .i64 k/\k<=n/\Hid (l.any p=(l.drop k).any p)/\Below w.heap.size w wr) (λvi _=>n - (intOf vi).toNat)
 case atStart=>exact ⟨0,rfl,by omega,by show _=_;rw [List.drop_zero],Below.refl _ _⟩
 case round =>
  obtain ⟨k,rfl,hk,hr,hW⟩:=hrel;by_cases hlt:k < n
  ·obtain ⟨ad,x,rfl,hg,c0⟩:=(hl.below hW).at_ hlt;have HS:=zC (lJ (p:=p) hg);have CB:=CF x (zD hg) wr hW;obtain ⟨r9,b_⟩:=zB (p x);try rw [show p x=r9 from b_.symm] at CB
   have fZ:=zC b_;have k0:(0:Int)<=(k:Int):=by omega
   have k1:(k:Int) < (n:Int):=by omega
   clear hg b_;go_wp2_with fail;refine CB.mono ?_;rintro e w1 ⟨rfl,hW1⟩;have hW2:=bel hW hW1;clear CB;cases r9
   ·go_wp2_with fail;go_roundw
    case rel=>exact ⟨k + 1,by go_num,by omega,by show _=_;rw [hr.out,HS.out,<-fZ.out];rfl,hW2⟩
    case measure=>simp [intOf];omega
   ·go_wp2_with fail;go_ret;exact ⟨⟨k,rfl,by rw [hr.out,HS.out,<-fZ.out];simp⟩,hW2⟩
  ·have hd:l.drop k=[]:=List.drop_eq_nil_of_le (by rw [<-hl.1];omega);have HD:=zC hd;clear hd;go_wp2_with fail;go_ret;exact ⟨⟨-1,rfl,by rw [hr.out,HD.out];rfl⟩,hW⟩
theorem adW (G:Nat) (p:Int->Bool) (A:Option Addr) (n c:Nat) (l:List Int) (w:World) (hl:Ints w A n l) (hn:n<=1000000000) (CF:∀ x ∈ l,∀ w',Below w.heap.size w w'->Calls Tryz.prog 86 #[.int .i64 x,.pointer (some ⟨G,0,none⟩)] w' λe w''=>e=.returned (.bool (p x))/\Below w'.heap.size w' w'') :
  Calls Tryz.prog 85 #[.slice A n c,.func (.func 86) #[] #[.pointer (some ⟨G,0,none⟩)]] w λe w'=>e=.returned (.bool (l.any p))/\Below w.heap.size w w':=by
 have CI:=afY G p A n c l w hl hn CF;go_enter Tryz.func85,Tryz.ntmps85;go_wp2_with fail;refine CI.mono ?_;rintro e w1 ⟨⟨i,rfl,hi⟩,hb1⟩;go_wp2_with fail;go_ret;exact ⟨by rw [<-hi];rfl,hb1⟩
theorem ahF (G:Nat) (B:Option Addr) (m d:Nat) (b:List Int) (x:Int) (w:World) (hG:w.heap[G]? = some (.cells #[.slice B m d] 48 (0,0))) (hb:Ints w B m b) (hm:m<=1000000000) :
  Calls Tryz.prog 127 #[.int .i64 x,.pointer (some ⟨G,0,none⟩)] w λe w'=>e=.returned (.bool (!(b.any (· == x))))/\Below w.heap.size w w':=by
 have c0:=af hG 0 _ rfl;go_enter Tryz.func127,Tryz.ntmps127;go_wp2_with fail;refine (NC B m d b x w hb hm).mono ?_;rintro e w1 ⟨rfl,hb1⟩;go_wp2_with fail;go_ret;exact ⟨rfl,hb1⟩
theorem A.ahG (a b:List Int):(!(a.any λx=>!(b.any (· == x))))=A.part a b:=by
 unfold A.part;rw [List.all_eq_not_any_not]
theorem aag (E:Option Addr) (n c:Nat) (a:List Int) (B:Option Addr) (m d:Nat) (b:List Int) (w:World) (ha:Ints w E n a) (hn:n<=1000000000) (hb:Ints w B m b) (hm:m<=1000000000) :
  Calls Tryz.prog 77 #[.slice E n c,.slice B m d] w λe w'=>e=.returned (.bool (A.part a b))/\Below w.heap.size w w':=by
 have b0:Below w.heap.size w (w.alloc (.cells #[.slice B m d] 48)):=(Below.refl _ _).alloc (zG _) _;have hG:=heap_alloc_new w (.cells #[.slice B m d] 48);have CC:=adX w.heap.size (λx=>!(b.any (· == x))) E n c a (w.alloc (.cells #[.slice B m d] 48)) (ha.below b0) hn (λx _ w' hb'=>ahF w.heap.size B m d b x w' (az hb' hG) ((hb.below b0).below hb') hm);go_enter Tryz.func77,Tryz.ntmps77;go_wp2_with fail;refine CC.mono ?_;rintro e w1 ⟨rfl,hb1⟩;go_wp2_with fail;go_ret;exact ⟨by rw [<-A.ahG];rfl,bel b0 hb1⟩
namespace K
section
variable {nd : Int} {l : List Ro} {ss : List S} {r : List Q} {last : Int} {served : List Int} {t : Int × Tr} {rest : List (Int × Tr)}
theorem H8 (h:t.1 < 0\/(ss.length:Int)<=t.1):fJ nd l ss r last served (t :: rest)=1:=by
 unfold fJ;by_cases hn:t.1 < 0
 ·rw [if_pos hn]
 ·rw [if_neg hn,List.getElem?_eq_none (by omega)]
theorem Ve {x:S} (h0:0<=t.1) (hx:ss[t.1.toNat]? = some x):fJ nd l ss r last served (t :: rest)=if t.1<=last then 5 else if t.2.stops.isEmpty || !(check nd l x r t.2) then 24 else if t.2.stops.any (λk=>served.any (· == k)) then 5 else fJ nd l ss r t.1 (served ++ t.2.stops) rest:=by
 rw [fJ,if_neg (by omega),hx]
end
theorem Vr {nd:Int} {l:List Ro} {ss:List S} {r:List Q} {ts:List (Int × Tr)} (h:aH nd l ss r ≠ 0):checks nd l ss r ts=aH nd l ss r:=by unfold checks;rw [if_neg h]
theorem Vq {nd:Int} {l:List Ro} {ss:List S} {r:List Q} {ts:List (Int × Tr)} (h:aH nd l ss r=0):checks nd l ss r ts=fJ nd l ss r (-1) [] ts:=by unfold checks;rw [if_pos h]
theorem ZT {a b:List Int} (ha:a.Nodup) (hb:b.Nodup) (h:b.any (λk=>a.any (· == k))=false):(a ++ b).Nodup:=by
 rw [List.nodup_append];refine ⟨ha,hb,λx hx y hy e=>?_⟩;subst e;rw [List.any_eq_false] at h;exact h x hy (List.any_eq_true.2 ⟨x,hx,beq_self_eq_true _⟩)
theorem JM {a:List Int} {n:Nat} (ha:a.Nodup) (hb:∀ z ∈ a,0<=z/\z < (n:Int)):a.length<=n:=by
 have:=EY (b:=iota n) ha λz hz=>QI.2 (hb z hz);unfold iota at this;rw [List.length_map,List.length_range] at this;exact this
end K
open Go.Maps in
theorem Uu:∀ (l:List Int) (acc:List Lit),(∀ x ∈ l,acc.any (λy=>y.sameKey (.int .i64 x))=false)->l.Nodup->((l.map (Lit.int .i64)).foldl addKey acc).length=acc.length + l.length
 | [],acc,_,_=>rfl
 | x :: l,acc,h,hn=>by
  obtain ⟨h1,h2⟩:=List.nodup_cons.1 hn;rw [List.map_cons,List.foldl_cons];have hx:=h x (List.mem_cons_self ..);have e:addKey acc (.int .i64 x)=acc ++ [.int .i64 x]:=by unfold addKey;rw [hx];rfl
  rw [e,Uu l _ (λy hy=>?_) h2,List.length_append,List.length_cons]
  ·simp;omega
  ·rw [List.any_append,h y (List.mem_cons_of_mem _ hy),Bool.false_or];simp only [List.any_cons,List.any_nil,Bool.or_false];have hne:x ≠ y:=λe=>h1 (by rw [e];exact hy);simp [Lit.sameKey,hne]
open Go.Maps in
theorem aje {l:List Int} (h:l.Nodup):Maps.size (seen l)=l.length:=by
 unfold seen;rw [size_setOf _ _ (λx hx=>by obtain ⟨y,-,rfl⟩:=List.mem_map.1 hx;trivial),Uu l [] (λ_ _=>rfl) h];simp
theorem adQ (G mb n:Nat) (served:List Int) (x:Int) (w:World) (hG:w.heap[G]? = some (.cells #[.map (some mb)] 120 (0,0))) (hS:Seen w mb n served) (hx:(Lit.int .i64 x).wf=true) :
  Calls Tryz.prog 86 #[.int .i64 x,.pointer (some ⟨G,0,none⟩)] w λe w'=>e=.returned (.bool (served.any (· == x)))/\Below w.heap.size w w':=by
 have c0:=af hG 0 _ rfl;have LK:=hS.look x hx;go_enter Tryz.func86,Tryz.ntmps86;go_wp2_with fail;go_ret;exact ⟨rfl,Below.refl _ _⟩
end Go.Proofs.YtippdjmpkafifaaGreat
namespace Go.Proofs.YtippdjmpkafifaaGreat
open Go.RowKit Go.Maps
def sQ (tn:Nat) (ts:List TV):Prop:=tn<=1000000000/\∀ y ∈ ts,y.n<=100000/\y.n'<=1000000000
theorem Vo (x:Cs) (TA:Option Addr) (tn tc:Nat) (ts:List TV) (w:World) (hx:bF w x) (hT:dY w TA tn ts) (hF:sQ tn ts) :
  Calls Tryz.prog 26 #[.agg #[.int .i64 x.nd,.slice x.A x.n x.c],.slice x.SA x.sn x.sc,.slice x.B x.m x.d,.slice TA tn tc] w λe w'=>e=.returned (.int .i64 (K.checks x.nd x.l x.ss x.r (ts.map TV.pr)))/\Below w.heap.size w w':=by
 have hN:=Net.new w x.nd x.A x.n x.c;have p0:=hN.c0;have p1:=hN.c1;have b0:Below w.heap.size w (w.alloc (.cells #[.int .i64 x.nd,.slice x.A x.n x.c] 24)):=(Below.refl _ _).alloc (zG _) _;go_enter Tryz.func26,Tryz.ntmps26;go_wp2_with fail;refine (Ny x _ (hx.below b0)).mono ?_;obtain ⟨ce,hce⟩:=zB (K.aH x.nd x.l x.ss x.r);rw [<-hce];rintro e w1 ⟨rfl,b1⟩;have hN1:=hN.below b1;have hb1:=bel b0 b1;clear p0 p1 b0 b1 hN;by_cases hz:ce=0;rotate_left
 ·have HX:=zC (show K.checks x.nd x.l x.ss x.r (ts.map TV.pr)=ce by rw [hce] at hz ⊢;exact K.Vr hz);have hd:(ce != 0)=true:=by simp [bne,hz]
  clear hce;go_wp2_with fail;go_ret;exact ⟨by rw [HX.out];rfl,hb1⟩
 subst hz;have aJ:=zC hce.symm;clear hce;have bf:=zC hx.shifts.1.1;have aO:=zC hx.aN.1;have xU:=zC hT.1.1;have j_:x.m<=6:=by rw [aO.out];exact (K.gQ aJ.out).2.2.2.2
 have qC:x.sn<=4:=by rw [bf.out];exact (K.gQ aJ.out).2.1
 have CJ:=zC (show K.checks x.nd x.l x.ss x.r (ts.map TV.pr)=_ from K.Vq aJ.out);obtain ⟨L,hL⟩:=zB (ts.map TV.pr);rw [<-hL] at CJ;have HL:=zC hL;have hmm:=@run_makeMap Tryz.prog;obtain ⟨afL,hty⟩:=hF;obtain ⟨w2,hw2⟩:=zB ((w1.alloc (.map #[] 0)).alloc (.cells #[.map (some w1.heap.size)] 120));obtain ⟨mp,hmp⟩:=zB w1.heap.size;have z1:=World.size_alloc w1 (.map #[] 0);have b12:Below w1.heap.size w1 w2:=by rw [hw2];exact bel ((Below.refl _ _).alloc (zG _) _) ((Below.refl _ _).alloc (zG _) _)
 have hG2:w2.heap[mp + 1]? = some (.cells #[.map (some mp)] 120 (0,0)):=by rw [hw2,hmp];exact bI _ _ _ z1.symm
 have hS2:Seen w2 mp 0 []:=by
  rw [hw2,hmp];have h:=World.ownsMap_made w1 Tryz.prog 3 (plainElem (H:=Unit) Tryz.prog 4);exact Seen.below (by rw [Seen,ajf];exact h) ((Below.refl _ _).alloc (zG _) _)
 go_upto_region 5 with fail;rw [<-hw2,<-hmp];have hbm:w1.heap.size<=mp:=by rw [hmp];exact zG _
 have X8:mp < w2.heap.size:=by have:=lt_of_block hG2;omega
 clear hw2 hmp z1 hmm hL;go_wp2_with fail;go_loopw [11,26] (λv11 v26 wr=>∃ (k:Nat) (last:Int) (served:List Int),v26=.int .i64 k/\k<=tn/\v11=.int .i64 last/\Seen wr mp served.length served/\wr.heap[mp + 1]? = some (.cells #[.map (some mp)] 120 (0,0))/\Below w1.heap.size w1 wr/\Hid (served.Nodup/\(∀ z ∈ served,0<=z/\z < (x.m:Int)))/\served.length<=6/\Hid (K.checks x.nd x.l x.ss x.r L=K.fJ x.nd x.l x.ss x.r last served (L.drop k))/\mp < wr.heap.size) (λ_ v26 _=>tn - (intOf v26).toNat)
 case atStart=>exact ⟨0,-1,[],rfl,Nat.zero_le _,rfl,hS2,hG2,b12,⟨List.nodup_nil,λz hz=>(by cases hz)⟩,Nat.zero_le _,CJ.out,X8⟩
 case round =>
  clear hS2 hG2 b12 X8;obtain ⟨k,last,served,rfl,hk,rfl,hS,hG,hbr,hsv,bJ,hck,hmr⟩:=hrel;by_cases hlt:k < tn
  ·obtain ⟨ad,y,hTA,hy,⟨hI1,hI2⟩,c0,c1,c2,c3⟩:=(hT.below (bel hb1 hbr)).at_ hlt;have ML:=zC (zD hy);obtain ⟨hyn,Qn⟩:=hty y (zD hy);have hLk:L[k]? = some y.pr:=by rw [HL.out,List.getElem?_map,hy];rfl
   have HDR:=zC (show K.checks x.nd x.l x.ss x.r L=K.fJ x.nd x.l x.ss x.r last served (y.pr :: L.drop (k + 1)) by rw [hck.out,yx hLk]);have k0:(0:Int)<=(k:Int):=by omega
   have k1:(k:Int) < (tn:Int):=by omega
   obtain ⟨g,hg⟩:=zB wr.heap.size;obtain ⟨w3,hw3⟩:=zB (wr.alloc (.cells #[.int .i64 y.sh,.slice y.A y.n y.c,.slice y.A' y.n' y.c',.int .i64 y.t.end_] 80));have b3:=zA hw3;have hB3:gm w3 g y.sh (.slice y.A y.n y.c) (.slice y.A' y.n' y.c') y.t.end_:=by rw [hw3,hg];exact heap_alloc_new _ _
   have hS3:=hS.below b3;have hG3:=az b3 hG;have hb3:=bel hbr b3;have pY:=hI1.below b3;have wO:=hI2.below b3;have X4:mp < w3.heap.size:=Nat.lt_of_lt_of_le hmr b3.size;have hN3:=hN1.below hb3;clear hy hLk hck hS hG hI1 hI2 hbr hmr;have mZ:=zC pY.1;by_cases hneg:y.sh < 0
   ·have hd1:decide (y.sh < 0)=true:=zH hneg;have HX:=zC (show K.checks x.nd x.l x.ss x.r L=1 by rw [HDR.out];exact K.H8 (.inl hneg));rw [hTA];go_upto_region 8 with fail;rw [<-hw3,<-hg];clear hw3 hg c0 c1 c2 c3 hTA b3;obtain ⟨t0,t1,t2,t3⟩:=hB3.cells;go_wp2_with fail;go_ret;exact ⟨by rw [<-HL.out,HX.out];rfl,bel hb1 hb3⟩
   have hd1:decide (y.sh < 0)=false:=zI hneg;by_cases hbig:(x.sn:Int)<=y.sh
   ·have hd2:decide ((x.sn:Int)<=y.sh)=true:=zH hbig;have HX:=zC (show K.checks x.nd x.l x.ss x.r L=1 by rw [HDR.out];exact K.H8 (.inr (by rw [<-bf.out];exact hbig)));rw [hTA];go_upto_region 8 with fail;rw [<-hw3,<-hg];clear hw3 hg c0 c1 c2 c3 hTA b3;obtain ⟨t0,t1,t2,t3⟩:=hB3.cells;go_wp2_with fail;go_ret;exact ⟨by rw [<-HL.out,HX.out];rfl,bel hb1 hb3⟩
   have hd2:decide ((x.sn:Int)<=y.sh)=false:=zI hbig;obtain ⟨s,hs⟩:∃ s:Nat,y.sh=(s:Int):=⟨y.sh.toNat,by omega⟩;have hsn:s < x.sn:=by omega
   obtain ⟨au,sS,gq,hsS,qf,s0,s1,s2,s3,s4,s5⟩:=((hx.below hb1).below hb3).shifts.at_ hsn;have HST:Hid (K.checks x.nd x.l x.ss x.r L=if y.sh<=last then 5 else if y.t.stops.isEmpty || !(K.check x.nd x.l sS x.r y.t) then 24 else if y.t.stops.any (λk=>served.any (· == k)) then 5 else K.fJ x.nd x.l x.ss x.r y.sh (served ++ y.t.stops) (L.drop (k + 1))) :=
    zC (HDR.out.trans (K.Ve (t:=y.pr) (by show 0<=y.sh;omega) (by show x.ss[y.sh.toNat]? = _;rw [hs];exact hsS)))
   have hsm:=zD hsS;have dW:=zC hs;clear hs;rw [hTA,gq];go_upto_region 8 with fail;rw [<-hw3,<-hg];clear hw3 hg c0 c1 c2 c3 hTA b3 HDR hsS gq hneg hbig;obtain ⟨t0,t1,t2,t3⟩:=hB3.cells;by_cases hle:y.sh<=last
   ·have hd3:decide (y.sh<=last)=true:=zH hle;have HX:=zC (show K.checks x.nd x.l x.ss x.r L=5 by rw [HST.out,if_pos hle]);clear s0 s1 s2 s3 s4 s5;go_wp2_with fail;go_ret;exact ⟨by rw [<-HL.out,HX.out];rfl,bel hb1 hb3⟩
   have hd3:decide (y.sh<=last)=false:=zI hle;have mX:=zC (HST.out.trans (if_neg hle));by_cases hn0:y.n=0
   ·have hd4:((y.n:Int) == 0)=true:=by rw [hn0];rfl
    have hd5:decide ((y.n:Int)=0)=true:=by rw [hn0];rfl
    have HX:=zC (show K.checks x.nd x.l x.ss x.r L=24 by
     rw [mX.out,show y.t.stops=[] from List.length_eq_zero_iff.1 (by rw [<-mZ.out];exact hn0)];rfl)
    clear s0 s1 s2 s3 s4 s5;go_wp2_with fail;go_quiet (fail);go_wp2_with fail;go_ret;exact ⟨by rw [<-HL.out,HX.out];rfl,bel hb1 (below_drewN hb3 _)⟩
   have hd4:((y.n:Int) == 0)=false:=by simp [hn0]
   have hd5:decide ((y.n:Int)=0)=false:=by simp [hn0]
   have hie:y.t.stops.isEmpty=false:=by
    cases he:y.t.stops with
    | nil=>have h9:=mZ.out;rw [he] at h9;exact absurd h9 hn0
    | cons a b=>rfl
   rw [hie,Bool.false_or] at mX;have p0:=ah.cell hN3.c0;have p1:=ah.cell hN3.c1;have q0:=ah.cell t0;have q1:=ah.cell t1;have q2:=ah.cell t2;have q3:=ah.cell t3;have r0:=ah.cell s0;have r1:=ah.cell s1;have r2:=ah.cell s2;have r3:=ah.cell s3;have r4:=ah.cell s4;have r5:=ah.cell s5;have w_:=(hx.below hb1).below hb3;have CT:=λi:ah w3=>ajK (x.one sS) y i.val ((w_.below i.property).case hsm) ⟨pY.below i.property,wO.below i.property,by omega,Qn⟩ hyn;obtain ⟨cb,hcb⟩:=zB (K.check x.nd x.l sS x.r y.t);have pG:=zC hcb;rw [<-hcb] at mX;have zV:∀ i:ah w3,Calls Tryz.prog 84 #[.agg #[.int .i64 x.nd,.slice x.A x.n x.c],.agg #[.int .i64 sS.day,.int .i64 sS.ag,.int .i64 sS.start,.int .i64 sS.end_,.int .i64 sS.aj,.slice sS.A sS.n sS.c],.slice x.B x.m x.d,.agg #[.int .i64 y.sh,.slice y.A y.n y.c,.slice y.A' y.n' y.c',.int .i64 y.t.end_]] i.val λe w'=>e=.returned (.bool cb)/\Below i.val.heap.size i.val w':=λi=>by rw [hcb];exact CT i
   have EP:(0:Int)<=(s:Int):=by omega
   have EQ:(s:Int) < (x.sn:Int):=by omega
   clear CT hcb hie hle hn0 HST;rw [dW.out] at t0 q0 zV hd1 hd2 hd3 ⊢;go_upto_region 12 with fail;clear hd1 hd2 hd3;refine dU (by kernel_rfl) (by kernel_rfl) ?_;repeat (go_big_quiet_step ((go_at_call 84;exact ah.calls (zV _))))
   refine wpQuiet_nil ?_;rintro w4 ⟨⟨w4,b4⟩,rfl⟩;have hB4:=hB3.below b4;have hS4:=hS3.below b4;have hG4:=az b4 hG3;have hb4:=bel hb3 b4;have yA:=pY.below b4;have hm4:mp < w4.heap.size:=Nat.lt_of_lt_of_le X4 b4.size;clear p0 p1 q0 q1 q2 q3 r0 r1 r2 r3 r4 r5 s0 s1 s2 s3 s4 s5 t0 t1 t2 t3 zV hB3 hS3 hG3 hb3 pY wO X4 hN3 hd4 hd5 w_ qf EP EQ b4;obtain ⟨t0,t1,t2,t3⟩:=hB4.cells;cases cb
   ·have HX:=zC (show K.checks x.nd x.l x.ss x.r L=24 by rw [mX.out];rfl);clear t0 t1 t2 t3;go_wp2_with fail;go_ret;exact ⟨by rw [<-HL.out,HX.out];rfl,bel hb1 hb4⟩
   obtain ⟨-,hst2,hst3⟩:=K.Nz pG.out.symm;have Me:=zC hst3;have HS2:=zC (show ∀ z ∈ y.t.stops,0<=z/\z < (x.m:Int) from λz hz=>by have:=hst2 z hz;have:=aO.out;omega);have vP:=zC (show K.checks x.nd x.l x.ss x.r L=if y.t.stops.any (λk=>served.any (· == k)) then 5 else K.fJ x.nd x.l x.ss x.r y.sh (served ++ y.t.stops) (L.drop (k + 1)) by rw [mX.out];rfl);have CC:=adW (mp + 1) (λk=>served.any (· == k)) y.A y.n y.c y.t.stops w4 yA (by omega) (λz hz w' hb'=>adQ (mp + 1) mp served.length served z w' (az hb' hG4) (hS4.below hb') (Ce (by have:=HS2.out z hz;omega) (by have:=HS2.out z hz;omega)));obtain ⟨db,hdb⟩:=zB (y.t.stops.any (λk=>served.any (· == k)));rw [<-hdb] at CC vP;have Gl:=zC hdb;clear mX hst2 hst3 hdb;go_wp2_with fail;refine CC.mono ?_;rintro e w5 ⟨rfl,b5⟩;have dF:=hB4.below b5;have hS5:=hS4.below b5;have wK:=az b5 hG4;have hb5:=bel hb4 b5;have X5:mp < w5.heap.size:=Nat.lt_of_lt_of_le hm4 b5.size;have fQ:=yA.below b5;clear CC t0 t1 t2 t3 hB4 hS4 hG4 hb4 hm4 yA b5;obtain ⟨t0,t1,t2,t3⟩:=dF.cells;cases db;rotate_left
   ·have HX:=zC (show K.checks x.nd x.l x.ss x.r L=5 by rw [vP.out];rfl);clear t0 t1 t2 t3;go_wp2_with fail;go_ret;exact ⟨by rw [<-HL.out,HX.out];rfl,bel hb1 hb5⟩
   have MB:=zC (show K.checks x.nd x.l x.ss x.r L=K.fJ x.nd x.l x.ss x.r y.sh (served ++ y.t.stops) (L.drop (k + 1)) by rw [vP.out];rfl);have hnd:=K.ZT hsv.out.1 Me.out Gl.out.symm;have hrg:∀ z ∈ served ++ y.t.stops,0<=z/\z < (x.m:Int):=λz hz=>(List.mem_append.1 hz).elim (hsv.out.2 z) (HS2.out z);have hlen:=K.JM hnd hrg;rw [List.length_append] at hlen;have Bh:(served ++ y.t.stops).length<=6:=by rw [List.length_append];omega
   have LH:=zC (And.intro hnd hrg);have HLEN:=zC hlen;have hyl:y.n=y.t.stops.length:=fQ.1;have hy6:y.n<=6:=by omega
   have GH:=zC hyl;have akN:served.length<=6:=bJ;clear vP hnd hrg hlen hyl;go_wp2_with fail;clear t0 t1 t2 t3;go_loopw [73] (λv73 wi=>∃ j:Nat,v73=.int .i64 j/\j<=y.n/\Seen wi mp (served.length + j) (served ++ y.t.stops.take j)/\wi.heap[mp + 1]? = some (.cells #[.map (some mp)] 120 (0,0))/\Below w1.heap.size w1 wi/\mp < wi.heap.size) (λv73 _=>y.n - (intOf v73).toNat)
   case atStart=>exact ⟨0,rfl,Nat.zero_le _,by rw [List.take_zero,List.append_nil];exact hS5,wK,hb5,X5⟩
   case round =>
    clear hS5 wK hb5 X5 dF fQ;obtain ⟨j,rfl,hj,IV,hGi,hbi,yY⟩:=hrel;by_cases Bi:j < y.n
    ·obtain ⟨Hg,z,Jv,hz,cz⟩:=((hT.2 y ML.out).1.below (bel hb1 hbi)).at_ Bi;have hwf:(Lit.int .i64 z).wf=true:=by
      have:=HS2.out z (zD hz);exact Ce (by omega) (by omega)
     have HZ:=zC hz;have cG:=af hGi 0 _ rfl;have kj0:(0:Int)<=(j:Int):=by omega
     have kj1:(j:Int) < (y.n:Int):=by omega
     clear hz;rw [Jv];go_wp2_with (first
      | (at_mapUpdate;refine wpList_mapUpdate_own _ rfl _ _ _ 120 rfl 3 4 law3 Tryz.underlying120 _ mp (served.length + j) _ rfl IV (by unfold maxLen;omega) _ _ _ rfl rfl (keyOf_int_mk Tryz.underlying3 hwf) _ [] (plainElem_bool Tryz.underlying4 true) ?_;intro w6 hown6 hgrow6)
      | fail)
     have hS6:Seen w6 mp (served.length + (j + 1)) (served ++ y.t.stops.take (j + 1)):=by
      obtain ⟨hk',e⟩:=zE.1 HZ.out;rw [Seen,List.take_succ_eq_append_getElem hk',e,<-List.append_assoc,abG];exact hown6
     have jl:=eX hgrow6 hGi (λe=>by injection e with e;omega);have hb6:Below w1.heap.size w1 w6:=a_ hbi hgrow6 (λg e=>by injection e with e;omega);have afi:mp < w6.heap.size:=Nat.lt_of_lt_of_le yY hgrow6.size;clear hown6 hgrow6 IV hGi hbi yY cz cG hwf;go_roundw
     case rel=>(go_light;exact ⟨j + 1,by go_num,Bi,hS6,jl,hb6,afi⟩)
     case measure=>(go_light;simp [intOf];omega)
    ·have hSe:Seen wr mp (served ++ y.t.stops).length (served ++ y.t.stops):=by
      have h9:=IV;rw [List.take_of_length_le (by rw [<-GH.out];omega),show served.length + j=(served ++ y.t.stops).length by rw [List.length_append,<-GH.out];omega] at h9;exact h9
     clear IV;go_wp2_with fail;go_roundw
     case rel=>(go_light;exact ⟨k + 1,y.sh,served ++ y.t.stops,by go_num,hlt,by rw [dW.out],hSe,hGi,hbi,LH.out,Bh,MB.out,yY⟩)
     case measure=>(go_light;simp [intOf];omega)
  ·have HE:=zC (show K.checks x.nd x.l x.ss x.r L=if served.length < x.m then 4 else 0 by
    rw [hck.out,List.drop_eq_nil_of_le (by rw [HL.out,List.length_map,<-xU.out];omega),aO.out];rfl)
   have hsz:=aje hsv.out.1;have cG:=af hG 0 _ rfl;by_cases hlm:served.length < x.m
   ·have hd:decide ((served.length:Int) < (x.m:Int))=true:=by simp;omega
    have hdn:decide (served.length < x.m)=true:=zH hlm;go_wp2_with (first | (at_len;refine wpList_len_own _ rfl _ 120 rfl 3 4 Tryz.underlying120 _ mp served.length _ rfl hS ?_;rw [hsz]) | fail);go_ret;exact ⟨by rw [<-HL.out,HE.out,if_pos hlm];rfl,bel hb1 hbr⟩
   ·have hd:decide ((served.length:Int) < (x.m:Int))=false:=by simp;omega
    have hdn:decide (served.length < x.m)=false:=zI hlm;go_wp2_with (first | (at_len;refine wpList_len_own _ rfl _ 120 rfl 3 4 Tryz.underlying120 _ mp served.length _ rfl hS ?_;rw [hsz]) | fail);go_ret;exact ⟨by rw [<-HL.out,HE.out,if_neg hlm];rfl,bel hb1 hbr⟩
end Go.Proofs.YtippdjmpkafifaaGreat
namespace Go.Proofs.YtippdjmpkafifaaGreat
open Go.RowKit
def eU (w:World) (E:Option Addr) (n:Nat) (l:List Sh):Prop:=aQ (λs=>[Sh.val s]) 1 w E n l/\∀ s ∈ l,Ints w s.A s.n s.l/\s.n<=s.c/\(s.A=none->s.n=0/\s.c=0)
theorem eU.below {w w':World} {E:Option Addr} {n:Nat} {l:List Sh} (h:eU w E n l) (hb:Below w.heap.size w w'):eU w' E n l:=⟨aQ.below h.1 hb,λs hs=>⟨(h.2 s hs).1.below hb,(h.2 s hs).2⟩⟩
theorem eU.at_ {w:World} {E:Option Addr} {n k:Nat} {l:List Sh} (h:eU w E n l) (hk:k < n):∃ ad s,E=some ad/\l[k]? = some s/\(Ints w s.A s.n s.l/\s.n<=s.c/\(s.A=none->s.n=0/\s.c=0))/\w.cell? (ad.add k)=some (.slice s.A s.n s.c):=by
 obtain ⟨ad,s,hA,hl,hc⟩:=aQ.get (f:=λs=>[Sh.val s]) (s:=1) (λ_=>rfl) h.1 hk;refine ⟨ad,s,hA,hl,h.2 s (zD hl),?_⟩;have:=hc 0 _ (by omega) rfl;rwa [Nat.mul_one,Nat.add_zero] at this
structure BV where
 sh:Int
 V:Option Addr
 vn:Nat
 vc:Nat
 v:List Int
 LA:Option Addr
 ln:Nat
 lc:Nat
 lb:List Lb
def BV.cells (b:BV):List Value:=[.int .i64 b.sh,.slice b.V b.vn b.vc,.slice b.LA b.ln b.lc]
def fA (w:World) (A:Option Addr) (n:Nat) (l:List BV):Prop:=aQ BV.cells 3 w A n l/\∀ b ∈ l,Ints w b.V b.vn b.v/\dX w b.LA b.ln b.lb
theorem fA.below {w w':World} {A:Option Addr} {n:Nat} {l:List BV} (h:fA w A n l) (hb:Below w.heap.size w w'):fA w' A n l:=⟨aQ.below h.1 hb,λs hs=>⟨(h.2 s hs).1.below hb,aQ.below (h.2 s hs).2 hb⟩⟩
theorem fA.at_ {w:World} {A:Option Addr} {n k:Nat} {l:List BV} (h:fA w A n l) (hk:k < n) :
  ∃ ad b,A=some ad/\l[k]? = some b/\(Ints w b.V b.vn b.v/\dX w b.LA b.ln b.lb)/\w.cell? (ad.add (k * 3))=some (.int .i64 b.sh)/\w.cell? ⟨(ad.add (k * 3)).block,(ad.add (k * 3)).off + 1,none⟩=some (.slice b.V b.vn b.vc) /\
   w.cell? ⟨(ad.add (k * 3)).block,(ad.add (k * 3)).off + 2,none⟩=some (.slice b.LA b.ln b.lc):=by
 obtain ⟨ad,b,hA,hl,hc⟩:=aQ.get (f:=BV.cells) (s:=3) (λ_=>rfl) h.1 hk;refine ⟨ad,b,hA,hl,h.2 b (zD hl),hc 0 _ (by omega) rfl,?_,?_⟩ <;> rw [<-lZ _ _ _ (by omega)]
 ·exact hc 1 _ (by omega) rfl
 ·exact hc 2 _ (by omega) rfl
theorem ad8 (a:Option Addr) (l c:Nat) (w:World):(binOp .eql 97 (.slice a l c) (.slice none 0 0)).run Tryz.prog w=.ok (.bool a.isNone) w:=by
 exact Go.run_eql_slice_nil w 97 48 a l c Tryz.underlying97
theorem adS (E:Option Addr) (n c:Nat) (l:List Sh) (w:World) (hl:eU w E n l) (hn:n<=1000000) (hE:E=none->n=0/\c=0) :
  Calls Tryz.prog 145 #[.slice E n c] w λe w'=>(∃ v,e=.returned v/\w'.ownsRow w.heap.size 48 1 v n (l.map Sh.val))/\Below w.heap.size w w':=by
 obtain ⟨i0,hi,hz0,hz1,hz2⟩:=info_parts Tryz.info48;have heq:=ad8;cases E with
 | none =>
  obtain ⟨rfl,rfl⟩:=hE rfl;go_enter Tryz.func145,Tryz.ntmps145;go_wp2_with fail;go_ret;have hl0:l=[]:=List.length_eq_zero_iff.1 hl.1.1.symm;subst hl0;exact ⟨⟨_,rfl,World.ownsRow_nil _ _ _ _⟩,Below.refl _ _⟩
 | some ad =>
  have gZ:(w.alloc (.cells #[] 48)).ownsRow w.heap.size 48 1 (.slice (some ⟨w.heap.size,0,none⟩) 0 0) 0 []:=World.ownsRow_lit w #[] 0 (zG _) (by simp only [maxLen];omega) (by simp);have hb0:=(Below.refl w.heap.size w).alloc (zG _) (.cells #[] 48);have hR:Rd (w.alloc (.cells #[] 48)) 1 (some ad) n (l.map Sh.val):=by
   have h9:=(aQ.below hl.1 hb0).2;have:(l.flatMap λs=>[Sh.val s])=l.map Sh.val:=by
    clear h9 hl;induction l with
    | nil=>rfl
    | cons a l ih=>rw [List.flatMap_cons,ih];rfl
   rwa [this] at h9
  go_enter Tryz.func145,Tryz.ntmps145;go_wp2_with (at_builtin;refine jW rfl (.tmp 5) (.tmp 6) 97 rfl w.heap.size 48 i0 (.slice none 0 0) 1 24 Tryz.underlying97 hi hz0 hz1 hz2 rfl (by decide) _ 0 _ rfl gZ (some ad) n c (l.map Sh.val) rfl hR (λu hu=>by obtain ⟨s,-,rfl⟩:=List.mem_map.1 hu;rfl) (by simp only [maxLen];omega) (by omega) (by first | (simp;done) | (simp;omega)) ?_;intro v' w4 hown4 hgrow4 yS);rw [Nat.zero_add] at hown4;have hb4:Below w.heap.size w w4:=wF hb0 (zG _) hgrow4 (λg h=>(gZ.lt g h).1);clear hgrow4 yS;go_wp2_with fail;go_ret;exact ⟨⟨_,rfl,hown4⟩,hb4⟩
def r_ (ai:List Sh) (b:BV):Bool:=A.part b.v (((ai.map Sh.l)[b.sh.toNat]?).getD [])
theorem adi (G:Nat) (E:Option Addr) (n c:Nat) (ai:List Sh) (b:BV) (w:World) (hG:w.heap[G]? = some (.cells #[.slice E n c] 97 (0,0))) (hS:eU w E n ai) (hI:Ints w b.V b.vn b.v) (hv:b.vn<=1000000000) (h6:∀ s ∈ ai,s.n<=1000000000) (h0:0<=b.sh) (h1:b.sh < (n:Int)) :
  Calls Tryz.prog 144 #[.agg #[.int .i64 b.sh,.slice b.V b.vn b.vc,.slice b.LA b.ln b.lc],.pointer (some ⟨G,0,none⟩)] w λe w'=>e=.returned (.bool (r_ ai b))/\Below w.heap.size w w':=by
 obtain ⟨s,hs⟩:∃ s:Nat,b.sh=(s:Int):=⟨b.sh.toNat,by omega⟩;have hsn:s < n:=by omega
 obtain ⟨ad,sh,hE,hsh,⟨hIs,-,-⟩,cs⟩:=hS.at_ hsn;have HV:=zC (show r_ ai b=A.part b.v sh.l by unfold r_;rw [hs,Int.toNat_natCast,List.getElem?_map,hsh];rfl);obtain ⟨r9,b_⟩:=zB (A.part b.v sh.l);have kH:=h6 sh (zD hsh);obtain ⟨w1,hw1⟩:=zB (w.alloc (.cells #[.int .i64 b.sh,.slice b.V b.vn b.vc,.slice b.LA b.ln b.lc] 90));obtain ⟨H,hH⟩:=zB w.heap.size;have b1:=zA hw1;have hB:w1.heap[H]? = some (.cells #[.int .i64 b.sh,.slice b.V b.vn b.vc,.slice b.LA b.ln b.lc] 90 (0,0)):=by rw [hw1,hH];exact heap_alloc_new _ _
 have hG1:=az b1 hG;have k0:(0:Int)<=(s:Int):=by omega
 have k1:(s:Int) < (n:Int):=by omega
 have CP:=λi:ah w1=>aag b.V b.vn b.vc b.v sh.A sh.n sh.c sh.l i.val ((hI.below b1).below i.property) hv ((hIs.below b1).below i.property) kH;simp only [<-b_] at CP;have fZ:=zC b_;rw [hs] at hB hw1 ⊢;rw [hE] at hG1;have q0:=ah.cell (af hB 0 _ rfl);have q1:=ah.cell (af hB 1 _ rfl);have q2:=ah.cell (af hG1 0 _ rfl);have q3:=ah.cell ((b1.cell (cell_lt cs)).trans cs);clear b_ hs h0 h1 hsh cs hE hG hS hI hIs;go_enter Tryz.func144,Tryz.ntmps144;go_upto_region 1 with fail;rw [<-hw1,<-hH];clear hw1 hH;refine dU (by kernel_rfl) (by kernel_rfl) ?_;repeat (go_big_quiet_step ((go_at_call 77;exact ah.calls (CP _))))
 refine wpQuiet_nil ?_;rintro w4 ⟨⟨w4,b4⟩,rfl⟩;go_wp2_with fail;go_ret;exact ⟨by rw [HV.out,<-fZ.out];rfl,bel b1 b4⟩
def F_ (bl:List BV) (n:Nat):Prop:=∀ b ∈ bl,(0<=b.sh/\b.sh < (n:Int))/\b.vn<=1000000000
theorem afW (G:Nat) (E:Option Addr) (n c:Nat) (ai:List Sh) (BA:Option Addr) (bn bc:Nat) (bl:List BV) (w:World) (hl:fA w BA bn bl) (hbn:bn<=1000000000) (hG:w.heap[G]? = some (.cells #[.slice E n c] 97 (0,0))) (hS:eU w E n ai) (h6:∀ s ∈ ai,s.n<=1000000000) (hok:F_ bl n) :
  Calls Tryz.prog 193 #[.slice BA bn bc,.func (.func 144) #[] #[.pointer (some ⟨G,0,none⟩)]] w λe w'=>(∃ i:Int,e=.returned (.int .i64 i)/\(decide (0<=i))=bl.any (r_ ai))/\Below w.heap.size w w':=by
 go_enter Tryz.func193,Tryz.ntmps193;go_wp2_with fail;go_loopw [8] (λvi wr=>∃ k:Nat,vi=.int .i64 k/\k<=bn/\Hid (bl.any (r_ ai)=(bl.drop k).any (r_ ai))/\Below w.heap.size w wr) (λvi _=>bn - (intOf vi).toNat)
 case atStart=>exact ⟨0,rfl,by omega,by show _=_;rw [List.drop_zero],Below.refl _ _⟩
 case round =>
  obtain ⟨k,rfl,hk,hr,hW⟩:=hrel;by_cases hlt:k < bn
  ·obtain ⟨ad,b,rfl,hg,⟨hI,-⟩,c0,c1,c2⟩:=(hl.below hW).at_ hlt;have HS:=zC (lJ (p:=r_ ai) hg);obtain ⟨⟨o1,o2⟩,o3⟩:=hok b (zD hg);have CB:=adi G E n c ai b wr (az hW hG) (hS.below hW) hI o3 h6 o1 o2;obtain ⟨r9,b_⟩:=zB (r_ ai b);rw [<-b_] at CB;have fZ:=zC b_;have k0:(0:Int)<=(k:Int):=by omega
   have k1:(k:Int) < (bn:Int):=by omega
   clear hg b_ hI o1 o2 o3;go_wp2_with fail;refine CB.mono ?_;rintro e w1 ⟨rfl,hW1⟩;have hW2:=bel hW hW1;clear CB;cases r9
   ·go_wp2_with fail;go_roundw
    case rel=>exact ⟨k + 1,by go_num,by omega,by show _=_;rw [hr.out,HS.out,<-fZ.out];rfl,hW2⟩
    case measure=>simp [intOf];omega
   ·go_wp2_with fail;go_ret;exact ⟨⟨k,rfl,by rw [hr.out,HS.out,<-fZ.out];simp⟩,hW2⟩
  ·have hd:bl.drop k=[]:=List.drop_eq_nil_of_le (by rw [<-hl.1.1];omega);have HD:=zC hd;clear hd;go_wp2_with fail;go_ret;exact ⟨⟨-1,rfl,by rw [hr.out,HD.out];rfl⟩,hW⟩
theorem Vx (G:Nat) (E:Option Addr) (n c:Nat) (ai:List Sh) (BA:Option Addr) (bn bc:Nat) (bl:List BV) (w:World) (hl:fA w BA bn bl) (hbn:bn<=1000000000) (hG:w.heap[G]? = some (.cells #[.slice E n c] 97 (0,0))) (hS:eU w E n ai) (h6:∀ s ∈ ai,s.n<=1000000000) (hok:F_ bl n) :
  Calls Tryz.prog 143 #[.slice BA bn bc,.func (.func 144) #[] #[.pointer (some ⟨G,0,none⟩)]] w λe w'=>e=.returned (.bool (bl.any (r_ ai)))/\Below w.heap.size w w':=by
 have CI:=afW G E n c ai BA bn bc bl w hl hbn hG hS h6 hok;go_enter Tryz.func143,Tryz.ntmps143;go_wp2_with fail;refine CI.mono ?_;rintro e w1 ⟨⟨i,rfl,hi⟩,hb1⟩;go_wp2_with fail;go_ret;exact ⟨by rw [<-hi];rfl,hb1⟩
theorem XV (ai:List Sh) (bl:List BV):bl.any (r_ ai)=A.hit (bl.map λb=>(b.sh.toNat,b.v)) (ai.map Sh.l):=by
 unfold A.hit;rw [List.any_map];rfl
namespace A
theorem adw {bl:List (Nat × List Int)} {m:Nat} {i:Int} {sh:List (List Int)}:blocked bl m 0 i sh=hit bl sh:=rfl
theorem adu {bl:List (Nat × List Int)} {m k:Nat} {i:Int} {sh:List (List Int)} (h:hit bl sh=true):blocked bl m k i sh=true:=by
 cases k with
 | zero=>exact h
 | succ k=>rw [blocked,h];rfl
theorem ado {bl:List (Nat × List Int)} {m k:Nat} {i:Int} {sh:List (List Int)} (h:hit bl sh=false):blocked bl m (k + 1) i sh=((List.range m).drop 0).all λs=>blocked bl m k (i + 1) (give sh s i):=by
 rw [blocked,h];rfl
theorem acK {m s:Nat} {p:Nat->Bool} (hs:s < m) (h:p s=false):((List.range m).drop s).all p=false:=by rw [J5 hs,List.all_cons,h];rfl
theorem acM {m s:Nat} {p:Nat->Bool} (hs:s < m) (h:p s=true):((List.range m).drop s).all p=((List.range m).drop (s + 1)).all p:=by rw [J5 hs,List.all_cons,h];rfl
end A
theorem akd {ops:Array Oper} {rest:List Oper} {o:Oper} {a:Act} {w w2:World} {Q:Exit->Act->World->Prop} (hgd:o.guard=none) (s x:Operand)
  (ho:o.op=.call { callee:=.builtin .append,args:=#[s,x],argTypes:=#[48,48] })
  {A:Option Addr} {n:Nat} {l:List Int} (hI:Ints w2 A n l) (hA:A=none->n=0) (hs:a.eval s=.slice A n n) (g:Nat) (p:Int) (hx:a.eval x=.slice (some ⟨g,0,none⟩) 1 1)
  (hw:Below w2.heap.size w2 w) (hg:w.heap[g]? = some (.cells #[.int .i64 p] 3 (0,0))) (hn:n<=1000000)
  (h:∀ B c w',Ints w' (some B) (n + 1) (l ++ [p])->n + 1<=c->Below w.heap.size w w'->w.heap.size<=B.block->wpList Tryz.prog ops Q rest (a.put o.dst (.slice (some B) (n + 1) c)) w') :
  wpList Tryz.prog ops Q (o :: rest) a w:=by
 obtain ⟨i0,hi,hz0,hz1,hz2⟩:=info_parts Tryz.info3;have Om:=hI.below hw;refine wpList_append_grows w hgd s x 48 ho 3 i0 (.int .i64 0) 1 8 Tryz.underlying48 hi hz0 hz1 hz2 rfl (by decide) A n n (intCells l) hs (λe=>⟨hA e,hA e⟩) (by rw [hI.1];simp [intCells]) ?_ ⟨g,0,none⟩ 1 1 [.int .i64 p] hx rfl ?_ (λu hu=>by simp at hu;subst hu;rfl) (by omega) (by simp only [maxLen];omega) (by omega) ?_
 ·intro b e j u hu;have hj:j < n:=by rw [hI.1];have:=(zE.1 hu).1;simpa [intCells] using this
  obtain ⟨ad,y,e',hy,cy⟩:=Om.at_ hj;rw [e] at e';injection e' with e';subst e';rw [intCells,List.getElem?_map,hy] at hu;injection hu with hu;rw [<-hu];exact cy
 ·intro j u hu;rw [jy];exact af hg j u (by simpa using hu)
 ·intro v' w' hown hgrow;have hown2:w'.ownsRow w.heap.size 3 1 v' (n + 1) (intCells (l ++ [p])):=by
   rw [BF];exact hown
  have hl:n + 1=(l ++ [p]).length:=by rw [List.length_append,hI.1];rfl
  have hb:Below w.heap.size w w':=⟨hgrow.os,hgrow.tape,hgrow.output,hgrow.size,λk hk=>hgrow.block k hk (λe=>by cases e)⟩;obtain ⟨A',c',e',hI'⟩:=mJ hown2 hl;obtain ⟨-,⟨e,e0⟩ | ⟨g',cap,cur,e,hb',hh,hnc,-⟩⟩:=hown2
  ·omega
  ·rw [e] at e';injection e' with e1 e2 e3;subst e1 e3;rw [e];exact h _ _ w' hI' hnc hb hb'
structure m_ (w:World) (g n:Nat) (cur:Array Value) (l:List Sh):Prop where
 blk:w.heap[g]? = some (.cells cur 48 (0,0))
 len:n=l.length
 get:∀ (k:Nat) (s:Sh),l[k]? = some s->cur[k]? = some s.val
theorem m_.below {w w':World} {g n:Nat} {cur:Array Value} {l:List Sh} (h:m_ w g n cur l) (hb:Below w.heap.size w w'):m_ w' g n cur l:=⟨az hb h.blk,h.len,h.get⟩
theorem m_.set {w:World} {g n:Nat} {cur:Array Value} {l:List Sh} (h:m_ w g n cur l) {s:Nat} (hs:s < n) (u:Sh):m_ (w.setCell ⟨g,s,none⟩ u.val) g n (cur.setIfInBounds s u.val) (l.set s u):=by
 refine ⟨bg h.blk s u.val,by rw [List.length_set];exact h.len,λk t hk=>?_⟩;have hl:s < l.length:=by rw [<-h.len];exact hs
 have hcs:s < cur.size:=by
  have:=h.get s l[s] (zF hl);exact (Array.getElem?_eq_some_iff.1 this).1
 rw [List.getElem?_set] at hk;rw [Array.getElem?_setIfInBounds];by_cases e:s=k
 ·subst e;rw [if_pos rfl,if_pos hl] at hk;injection hk with hk;rw [if_pos rfl,if_pos hcs,hk]
 ·rw [if_neg e] at hk;rw [if_neg e];exact h.get k t hk
theorem m_.ai {w:World} {g n:Nat} {cur:Array Value} {l:List Sh} (h:m_ w g n cur l) (hi:∀ s ∈ l,Ints w s.A s.n s.l/\s.n<=s.c/\(s.A=none->s.n=0/\s.c=0)):eU w (some ⟨g,0,none⟩) n l:=by
 refine ⟨⟨h.len,?_,λh0=>⟨_,rfl,λj u hu=>?_⟩⟩,hi⟩
 ·rw [oD (λs=>[Sh.val s]) 1 (λ_=>rfl),<-h.len]
 ·rw [jy];have e:(l.flatMap λs=>[Sh.val s])=l.map Sh.val:=by
   clear hu h hi h0;induction l with
   | nil=>rfl
   | cons a l ih=>rw [List.flatMap_cons,ih];rfl
  rw [e,List.getElem?_map] at hu;cases hs:l[j]? with
  | none=>rw [hs] at hu;cases hu
  | some s =>
   rw [hs] at hu;injection hu with hu;exact af h.blk j u (by rw [<-hu];exact h.get j s hs)
theorem abm {w:World} {base n:Nat} {v:Value} {l:List Sh} (h:w.ownsRow base 48 1 v n (l.map Sh.val)) (h0:0 < n):∃ g cap cur,v=.slice (some ⟨g,0,none⟩) n cap/\base<=g/\n<=cap/\m_ w g n cur l:=by
 obtain ⟨hl,⟨e,e0⟩ | ⟨g,cap,cur,e,hb,hh,hnc,-,-,ht⟩⟩:=h
 ·omega
 ·refine ⟨g,cap,cur,e,hb,hnc,hh,by simpa using hl.symm,λk s hk=>?_⟩;have hkl:=(zE.1 hk).1;have h9:(cur.toList.take (n * 1))[k]? = some s.val:=by rw [ht,List.getElem?_map,hk];rfl
  rw [List.getElem?_take] at h9;split at h9
  ·simpa using h9
  ·cases h9
theorem adm (BA:Option Addr) (bn bc:Nat) (bl:List BV) (n N:Nat) (hN:N<=6) (hn4:n<=4) (hbn:bn<=1000000000) (hok:F_ bl n):∀ (k i:Nat) (E:Option Addr) (c:Nat) (ai:List Sh) (w:World),i + k=N->fA w BA bn bl->eU w E n ai->(E=none->n=0/\c=0)->Grown ai i ->
  Calls Tryz.prog 89 #[.slice BA bn bc,.slice E n c,.int .i64 i,.int .i64 N] w λe w'=>e=.returned (.bool (A.blocked (bl.map λb=>(b.sh.toNat,b.v)) n k i (ai.map Sh.l)))/\Below w.heap.size w w':=by
 intro k;induction k with
 | zero =>
  intro i E c ai w hi hl hS hE hgr;have h6:∀ s ∈ ai,s.n<=1000000000:=λs hs=>by
   obtain ⟨h1,h2,-⟩:=hgr s hs;obtain ⟨m6,h6⟩:=K.FU h1 λy hy=>by have:=h2 y hy;omega
   rw [(hS.2 s hs).1.1];have:=h6.len;omega
  have b0:Below w.heap.size w (w.alloc (.cells #[.slice E n c] 97)):=(Below.refl _ _).alloc (zG _) _;have CC:=Vx w.heap.size E n c ai BA bn bc bl _ (hl.below b0) hbn (heap_alloc_new w _) (hS.below b0) h6 hok;rw [XV] at CC;have HZ:=zC (A.adw (bl:=bl.map λb=>(b.sh.toNat,b.v)) (m:=n) (i:=(i:Int)) (sh:=ai.map Sh.l));obtain ⟨hb,hhb⟩:=zB (A.hit (bl.map λb=>(b.sh.toNat,b.v)) (ai.map Sh.l));rw [<-hhb] at CC HZ;have hd:decide ((i:Int)=(N:Int))=true:=by simp;omega
  have hd2:((i:Int) == (N:Int))=true:=by simp;omega
  have hd3:decide (i=N)=true:=by simp;omega
  have hd4:(i == N)=true:=by simp;omega
  have hdi:i=N:=by omega
  clear hhb hi;go_enter Tryz.func89,Tryz.ntmps89;go_wp2_with fail;refine CC.mono ?_;rintro e w1 ⟨rfl,hb1⟩;have hb2:=bel b0 hb1;cases hb
  ·go_wp2_with fail;go_ret;exact ⟨by rw [HZ.out];rfl,hb2⟩
  ·go_wp2_with fail;go_ret;exact ⟨by rw [HZ.out];rfl,hb2⟩
 | succ k ih =>
  intro i E c ai w hi hl hS hE hgr;have V7:∀ s ∈ ai,s.n<=6:=λs hs=>by
   obtain ⟨h1,h2,-⟩:=hgr s hs;obtain ⟨m6,h6⟩:=K.FU h1 λy hy=>by have:=h2 y hy;omega
   rw [(hS.2 s hs).1.1];exact h6.len
  have h6:∀ s ∈ ai,s.n<=1000000000:=λs hs=>by have:=V7 s hs;omega
  obtain ⟨w1,hw1⟩:=zB (w.alloc (.cells #[.slice E n c] 97));obtain ⟨G,hG⟩:=zB w.heap.size;have b0:=zA hw1;have hG1:w1.heap[G]? = some (.cells #[.slice E n c] 97 (0,0)):=by rw [hw1,hG];exact heap_alloc_new _ _
  have CC:=Vx G E n c ai BA bn bc bl w1 (hl.below b0) hbn hG1 (hS.below b0) h6 hok;rw [XV] at CC;obtain ⟨P,hP⟩:=zB (bl.map λb=>(b.sh.toNat,b.v));rw [<-hP] at CC ih ⊢;obtain ⟨R,hR⟩:=zB (A.blocked P n (k + 1) i (ai.map Sh.l));have HR:=zC hR;have Gs:=zC (λh:A.hit P (ai.map Sh.l)=true=>A.adu (m:=n) (k:=k + 1) (i:=i) h);have nZ:=zC (λh:A.hit P (ai.map Sh.l)=false=>A.ado (m:=n) (k:=k) (i:=i) h);obtain ⟨hb,hhb⟩:=zB (A.hit P (ai.map Sh.l));rw [<-hhb] at CC Gs nZ;rw [<-hR];have hd:decide ((i:Int)=(N:Int))=false:=by simp;omega
  have hd2:((i:Int) == (N:Int))=false:=by simp;omega
  have hd3:decide (i=N)=false:=by simp;omega
  have hd4:(i == N)=false:=by simp;omega
  have hiN:i < N:=by omega
  have HHI:=zC hi;clear hhb hR hP hi;go_enter Tryz.func89,Tryz.ntmps89;go_wp2_with fail;rw [<-hw1,<-hG];clear hw1 hG;refine CC.mono ?_;rintro e w2 ⟨rfl,hb1⟩;have hb2:=bel b0 hb1;have hG2:=az hb1 hG1;clear CC hG1 hb1 b0;cases hb;rotate_left
  ·have xQ:=zC (show R=true from HR.out.trans (Gs.out rfl));clear Gs nZ HR;go_wp2_with fail;go_ret;exact ⟨by rw [xQ.out];rfl,hb2⟩
  have Df:=zC (show R=_ from HR.out.trans (nZ.out rfl));clear Gs nZ HR;have cG:=af hG2 0 _ rfl;go_wp2_with fail;clear cG hd hd2 hd3 hd4;go_loopw [19] (λv19 wr=>∃ s:Nat,v19=.int .i64 s/\s<=n/\Below w2.heap.size w2 wr/\Hid (R=((List.range n).drop s).all λs=>A.blocked P n k (i + 1) (A.give (ai.map Sh.l) s i))) (λv19 _=>n - (intOf v19).toNat)
  case atStart=>exact ⟨0,rfl,Nat.zero_le _,Below.refl _ _,Df.out⟩
  case round =>
   obtain ⟨s,rfl,hs,hbr,hrr⟩:=hrel;by_cases hlt:s < n
   ·have hbw:=bel hb2 hbr;obtain ⟨ade,sh,hEe,hsh,⟨hI,hnc,hAn⟩,cs⟩:=(hS.below hbw).at_ hlt;have kH:=V7 sh (zD hsh);have rG:=az hbr hG2;have cG:=af rG 0 _ rfl;have CL:=adS E n c ai wr (hS.below hbw) (by omega) hE;have mV:=zC hsh;have HEE:=zC hEe;have k0:(0:Int)<=(s:Int):=by omega
    have k1:(s:Int) < (n:Int):=by omega
    clear hsh hEe;go_wp2_with fail;refine CL.mono ?_;rintro e w3 ⟨⟨v10,rfl,hown⟩,b3⟩;obtain ⟨g,cap,cur,rfl,hgb,hncap,hrow⟩:=abm hown (by omega);have Wx:=hI.below b3;have Wn:=az b3 rG;have cG3:w3.cell? ⟨G,0,none⟩=some (.slice (some ade) n c):=by rw [<-HEE.out];exact af Wn 0 _ rfl
    have cs3:=(b3.cell (cell_lt cs)).trans cs;have hA0:sh.A=none->sh.n=0:=λe=>(hAn e).1;have wG:Below w3.heap.size w3 (w3.alloc (.cells #[.int .i64 (i:Int)] 3)):=(Below.refl _ _).alloc (zG _) _;have Es:sh.n<=1000000:=by omega
    clear CL cG cs hown hI rG;go_wp2_with (first
     | (go_at_call 124;refine (Vt sh.A sh.n sh.c _ hnc hAn).mono ?_;rintro e w9 ⟨rfl,rfl⟩)
     | (at_builtin;refine akd rfl (.tmp 30) (.tmp 32) rfl Wx hA0 rfl w3.heap.size (i:Int) rfl wG (heap_alloc_new w3 _) Es ?_;intro B c9 w9 iP oN bU kF;have EE:=hrow.below (bel wG bU);have cg:=af EE.blk s _ (EE.get s sh mV.out);have fg:=gI EE.blk)
     | fail)
    obtain ⟨u,hu⟩:∃ u:Sh,u=⟨some B,sh.n + 1,c9,sh.l ++ [(i:Int)]⟩:=⟨_,rfl⟩;obtain ⟨wa,nI⟩:=zB (w9.setCell ⟨g,s,none⟩ (.slice (some B) (sh.n + 1) c9));have hwg:w2.heap.size<=g:=Nat.le_trans hbr.size hgb;have Qh:Below w2.heap.size w2 wa:=by rw [nI];exact (bel (bel hbr b3) (bel wG bU)).setCell hwg _
    have hra:m_ wa g n (cur.setIfInBounds s u.val) (ai.set s u):=by rw [nI];have h:=EE.set hlt u;rw [hu] at h ⊢;exact h
    have YI:∀ t ∈ ai,Ints wa t.A t.n t.l/\t.n<=t.c/\(t.A=none->t.n=0/\t.c=0):=λt ht=>⟨(hS.2 t ht).1.below (bel hb2 Qh),(hS.2 t ht).2⟩;have IE:Ints wa (some B) (sh.n + 1) (sh.l ++ [(i:Int)]):=by
     rw [nI];refine iP.set1 _ λh0 ad e=>?_;injection e with e;rw [<-e];have h1:=lt_of_block hrow.blk;have h2:=wG.size;omega
    have hsa:eU wa (some ⟨g,0,none⟩) n (ai.set s u):=hra.ai λt ht=>by
     rcases List.mem_or_eq_of_mem_set ht with ht | ht
     ·exact YI t ht
     ·rw [ht,hu];exact ⟨IE,oN,λe=>(nomatch e)⟩
    have hgu:Grown (ai.set s u) (i + 1):=by rw [hu];exact hgr.give mV.out B _ _
    obtain ⟨ii,hii⟩:=zB (i + 1);have akz:ii<=N:=by omega
    have CI:=ih ii (some ⟨g,0,none⟩) cap (ai.set s u) wa (by have:=HHI.out;omega) (hl.below (bel hb2 Qh)) hsa (λe=>(nomatch e)) (by rw [hii];exact hgu);have hgv:(ai.set s u).map Sh.l=A.give (ai.map Sh.l) s i:=by
     unfold A.give;rw [List.getElem?_map,mV.out,List.map_set,hu];rfl
    rw [hgv,show (ii:Int)=(i:Int) + 1 by omega] at CI;obtain ⟨r9,b_⟩:=zB (A.blocked P n k ((i:Int) + 1) (A.give (ai.map Sh.l) s i));rw [<-b_] at CI;have fZ:=zC b_;rw [<-nI];clear b_ hgv hii hgu hsa IE YI hra nI EE cg fg iP bU kF hrow Wx Wn cG3 cs3 wG hu;refine CI.mono ?_;rintro e wc ⟨rfl,hbc⟩;have hbn:=bel Qh hbc;clear CI;cases r9
    ·have HE:=zC (show R=false by rw [hrr.out];exact A.acK hlt fZ.out.symm);clear hrr;go_wp2_with fail;go_ret;exact ⟨by rw [HE.out];rfl,bel hb2 hbn⟩
    ·have aV:=zC (hrr.out.trans (A.acM hlt fZ.out.symm));clear hrr;go_wp2_with fail;go_roundw
     case rel=>(go_light;exact ⟨s + 1,by go_num,hlt,hbn,aV.out⟩)
     case measure=>(go_light;simp [intOf];omega)
   ·have HE:=zC (show R=true by rw [hrr.out,List.drop_eq_nil_of_le (by rw [List.length_range];omega)];rfl);clear hrr;go_wp2_with fail;go_ret;exact ⟨by rw [HE.out];rfl,bel hb2 hbr⟩
def BV.pr (b:BV):Int × List Int × List Lb:=(b.sh,b.v,b.lb)
def sO (bn:Nat) (bl:List BV):Prop:=bn<=1000000000/\∀ b ∈ bl,b.vn<=b.vc/\b.vn<=1000000000/\b.ln<=1000000000
namespace K
section
variable {nd : Int} {l : List Ro} {ss : List S} {r : List Q} {bl : List (Int × List Int × List Lb)}
theorem aaN (h:aH nd l ss r ≠ 0):refutes nd l ss r bl=false:=by simp [refutes,h]
theorem aaP (h:¬ bl.length<=200):refutes nd l ss r bl=false:=by simp [refutes,h]
theorem aaO (h:aH nd l ss r=0) (h2:bl.length<=200):refutes nd l ss r bl=((bl.drop 0).all (iZ nd l ss r) && A.blocked (bl.map λb=>(b.1.toNat,b.2.1)) ss.length r.length 0 (List.replicate ss.length [])):=by
 unfold refutes;rw [h,zH h2];rfl
theorem Uz {α:Type} {p:α->Bool} {bl:List α} {k:Nat} {b:α} (h:bl[k]? = some b):(bl.drop k).all p=(p b && (bl.drop (k + 1)).all p):=by rw [yx h,List.all_cons]
theorem QT {b:Int × List Int × List Lb} (h:b.1 < 0\/(ss.length:Int)<=b.1):iZ nd l ss r b=false:=by
 unfold iZ;by_cases hn:b.1 < 0
 ·rw [if_pos hn]
 ·rw [if_neg hn,List.getElem?_eq_none (by omega)]
theorem ZY {b:Int × List Int × List Lb} {x:S} (h0:0<=b.1) (hx:ss[b.1.toNat]? = some x):iZ nd l ss r b=blocks nd l x r b.2.1 b.2.2:=by
 unfold iZ;rw [if_neg (by omega),hx]
end
end K
theorem aij (x:Cs) (BA:Option Addr) (bn bc:Nat) (bl:List BV) (w:World) (hx:bF w x) (hB:fA w BA bn bl) (hF:sO bn bl) :
  Calls Tryz.prog 28 #[.agg #[.int .i64 x.nd,.slice x.A x.n x.c],.slice x.SA x.sn x.sc,.slice x.B x.m x.d,.slice BA bn bc] w λe w'=>e=.returned (.bool (K.refutes x.nd x.l x.ss x.r (bl.map BV.pr)))/\Below w.heap.size w w':=by
 have hN:=Net.new w x.nd x.A x.n x.c;have p0:=hN.c0;have p1:=hN.c1;have b0:Below w.heap.size w (w.alloc (.cells #[.int .i64 x.nd,.slice x.A x.n x.c] 24)):=(Below.refl _ _).alloc (zG _) _;obtain ⟨R,hR⟩:=zB (K.refutes x.nd x.l x.ss x.r (bl.map BV.pr));have HR:=zC hR;rw [<-hR];clear hR;have qO:=zC hB.1.1;obtain ⟨Eb,hbs⟩:=hF;go_enter Tryz.func28,Tryz.ntmps28;go_wp2_with fail;refine (Ny x _ (hx.below b0)).mono ?_;obtain ⟨ce,hce⟩:=zB (K.aH x.nd x.l x.ss x.r);rw [<-hce];rintro e w1 ⟨rfl,b1⟩;have hN1:=hN.below b1;have hb1:=bel b0 b1;clear p0 p1 b0 b1 hN;by_cases hz:ce=0;rotate_left
 ·have HX:=zC (show R=false by rw [HR.out];exact K.aaN (by rw [<-hce];exact hz));have hd:(ce != 0)=true:=by simp [bne,hz]
  clear hce;go_wp2_with fail;go_ret;exact ⟨by rw [HX.out];rfl,hb1⟩
 subst hz;have aJ:=zC hce.symm;clear hce;have bf:=zC hx.shifts.1.1;have aO:=zC hx.aN.1;have j_:x.m<=6:=by rw [aO.out];exact (K.gQ aJ.out).2.2.2.2
 have qC:x.sn<=4:=by rw [bf.out];exact (K.gQ aJ.out).2.1
 by_cases Bj:bn<=200;rotate_left
 ·have hd1:decide ((200:Int) < (bn:Int))=true:=by simp;omega
  have hd2:decide (200 < bn)=true:=by simp;omega
  have HX:=zC (show R=false by rw [HR.out];exact K.aaP (by rw [List.length_map,<-qO.out];exact Bj));go_wp2_with fail;go_ret;exact ⟨by rw [HX.out];rfl,hb1⟩
 have hd1:decide ((200:Int) < (bn:Int))=false:=by simp;omega
 have hd2:decide (200 < bn)=false:=by simp;omega
 obtain ⟨P,hP⟩:=zB (bl.map λb=>(b.sh.toNat,b.v));have l_:((bl.map BV.pr).map λb=>(b.1.toNat,b.2.1))=P:=by rw [hP,List.map_map];rfl
 have nZ:=zC (show R=(((bl.map BV.pr).drop 0).all (K.iZ x.nd x.l x.ss x.r) && A.blocked P x.sn x.m 0 (List.replicate x.sn [])) by
  rw [HR.out,K.aaO aJ.out (by rw [List.length_map,<-qO.out];exact Bj),l_,bf.out,aO.out])
 have HP:=zC hP;obtain ⟨L,hL⟩:=zB (bl.map BV.pr);rw [<-hL] at nZ;have HL:=zC hL;clear hP l_ hL;go_wp2_with fail;clear hd1 hd2;go_loopw [23] (λv23 wr=>∃ k:Nat,v23=.int .i64 k/\k<=bn/\Below w1.heap.size w1 wr/\Hid (R=((L.drop k).all (K.iZ x.nd x.l x.ss x.r) && A.blocked P x.sn x.m 0 (List.replicate x.sn [])))/\Hid (∀ (j:Nat) (b:BV),j < k->bl[j]? = some b->0<=b.sh/\b.sh < (x.sn:Int))) (λv23 _=>bn - (intOf v23).toNat)
 case atStart=>exact ⟨0,rfl,Nat.zero_le _,Below.refl _ _,nZ.out,λj b h=>absurd h (by omega)⟩
 case round =>
  obtain ⟨k,rfl,hk,hbr,hrr,hrg⟩:=hrel;by_cases hlt:k < bn
  ·obtain ⟨ad,y,kW,hy,⟨hI1,hI2⟩,c0,c1,c2⟩:=(hB.below (bel hb1 hbr)).at_ hlt;obtain ⟨hv1,hv2,hv3⟩:=hbs y (zD hy);have hLk:L[k]? = some y.pr:=by rw [HL.out,List.getElem?_map,hy];rfl
   have HDR:=zC (show R=((K.iZ x.nd x.l x.ss x.r y.pr && (L.drop (k + 1)).all (K.iZ x.nd x.l x.ss x.r)) && A.blocked P x.sn x.m 0 (List.replicate x.sn [])) by rw [hrr.out,K.Uz hLk]);have HY:=zC hy;have k0:(0:Int)<=(k:Int):=by omega
   have k1:(k:Int) < (bn:Int):=by omega
   obtain ⟨g,hg⟩:=zB wr.heap.size;obtain ⟨w3,hw3⟩:=zB (wr.alloc (.cells #[.int .i64 y.sh,.slice y.V y.vn y.vc,.slice y.LA y.ln y.lc] 90));have b3:=zA hw3;have hB3:w3.heap[g]? = some (.cells #[.int .i64 y.sh,.slice y.V y.vn y.vc,.slice y.LA y.ln y.lc] 90 (0,0)):=by rw [hw3,hg];exact heap_alloc_new _ _
   have hb3:=bel hbr b3;have pY:=hI1.below b3;have wO:=aQ.below hI2 b3;have hN3:=hN1.below hb3;clear hy hLk hrr hI1 hI2 hbr;by_cases hbad:y.sh < 0\/(x.sn:Int)<=y.sh
   ·have HX:=zC (show R=false by rw [HDR.out,K.QT (b:=y.pr) (by rw [<-bf.out];exact hbad)];rfl);rw [kW];go_upto_region 6 with fail;rw [<-hw3,<-hg];clear hw3 hg c0 c1 c2 kW b3;have t0:=af hB3 0 _ rfl;have t1:=af hB3 1 _ rfl;have t2:=af hB3 2 _ rfl;by_cases hneg:y.sh < 0
    ·have hd1:decide (y.sh < 0)=true:=zH hneg;clear hbad;go_quiet (fail);go_wp2_with fail;go_ret;exact ⟨by rw [HX.out];rfl,bel hb1 (below_drewN hb3 _)⟩
    ·have hd1:decide (y.sh < 0)=false:=zI hneg;have hd2:decide ((x.sn:Int)<=y.sh)=true:=zH (hbad.resolve_left hneg);clear hbad;go_quiet (fail);go_wp2_with fail;go_ret;exact ⟨by rw [HX.out];rfl,bel hb1 (below_drewN hb3 _)⟩
   obtain ⟨hneg,hbig⟩:=not_or.1 hbad;obtain ⟨s,hs⟩:∃ s:Nat,y.sh=(s:Int):=⟨y.sh.toNat,by omega⟩;have hsn:s < x.sn:=by omega
   obtain ⟨au,sS,gq,hsS,qf,s0,s1,s2,s3,s4,s5⟩:=((hx.below hb1).below hb3).shifts.at_ hsn;have C_:=zC (K.ZY (nd:=x.nd) (l:=x.l) (r:=x.r) (b:=y.pr) (show 0<=y.sh by omega) (show x.ss[y.sh.toNat]? = some sS by rw [hs];exact hsS));have hsm:=zD hsS;have Df:=zC (show ∀ (j:Nat) (b:BV),j < k + 1->bl[j]? = some b->0<=b.sh/\b.sh < (x.sn:Int) from λj b hj hb=>by
    by_cases e:j=k
    ·rw [e,HY.out] at hb;injection hb with hb;rw [<-hb,hs];omega
    ·exact hrg.out j b (by omega) hb)
   have dW:=zC hs;clear hs hsS hbad hneg hbig hrg;rw [kW,gq];go_upto_region 6 with fail;rw [<-hw3,<-hg];clear hw3 hg c0 c1 c2 kW gq b3;have q0:=ah.cell (af hB3 0 _ rfl);have q1:=ah.cell (af hB3 1 _ rfl);have q2:=ah.cell (af hB3 2 _ rfl);have p0:=ah.cell hN3.c0;have p1:=ah.cell hN3.c1;have r0:=ah.cell s0;have r1:=ah.cell s1;have r2:=ah.cell s2;have r3:=ah.cell s3;have r4:=ah.cell s4;have r5:=ah.cell s5;have w_:=(hx.below hb1).below hb3;obtain ⟨cb,hcb⟩:=zB (K.blocks x.nd x.l sS x.r y.v y.lb);have CT:∀ i:ah w3,Calls Tryz.prog 88 #[.agg #[.int .i64 x.nd,.slice x.A x.n x.c],.agg #[.int .i64 sS.day,.int .i64 sS.ag,.int .i64 sS.start,.int .i64 sS.end_,.int .i64 sS.aj,.slice sS.A sS.n sS.c],.slice x.B x.m x.d,.agg #[.int .i64 y.sh,.slice y.V y.vn y.vc,.slice y.LA y.ln y.lc]] i.val λe w'=>e=.returned (.bool cb)/\Below i.val.heap.size i.val w':=λi=>by
    rw [hcb];exact adz (x.one sS) y.sh y.V y.vn y.vc y.v y.LA y.ln y.lc y.lb i.val ((w_.below i.property).case hsm) (pY.below i.property) hv1 hv2 (aQ.below wO i.property) hv3
   have pG:=zC (show K.iZ x.nd x.l x.ss x.r y.pr=cb by rw [C_.out,hcb];rfl);have EP:(0:Int)<=(s:Int):=by omega
   have EQ:(s:Int) < (x.sn:Int):=by omega
   have kd1:decide ((s:Int) < 0)=false:=by simp
   have qE:decide ((x.sn:Int)<=(s:Int))=false:=by simp;omega
   have kd3:decide (x.sn<=s)=false:=by simp;omega
   rw [dW.out] at q0 CT;clear hcb C_ hN3 hB3 s0 s1 s2 s3 s4 s5 w_ qf hsm;refine dU (by kernel_rfl) (by kernel_rfl) ?_;repeat (go_big_quiet_step ((go_at_call 88;exact ah.calls (CT _))))
   refine wpQuiet_nil ?_;rintro w4 ⟨⟨w4,b4⟩,rfl⟩;have hb4:=bel hb3 b4;clear q0 q1 q2 p0 p1 r0 r1 r2 r3 r4 r5 CT pY wO b4 hb3;cases cb
   ·have HX:=zC (show R=false by rw [HDR.out,pG.out];rfl);go_wp2_with fail;go_ret;exact ⟨by rw [HX.out];rfl,bel hb1 hb4⟩
   ·have aV:=zC (show R=((L.drop (k + 1)).all (K.iZ x.nd x.l x.ss x.r) && A.blocked P x.sn x.m 0 (List.replicate x.sn [])) by rw [HDR.out,pG.out,Bool.true_and]);go_wp2_with fail;go_roundw
    case rel=>(go_light;exact ⟨k + 1,by go_num,hlt,hb4,aV.out,Df.out⟩)
    case measure=>(go_light;simp [intOf];omega)
  ·have HE:=zC (show R=A.blocked P x.sn x.m 0 (List.replicate x.sn []) by rw [hrr.out,List.drop_eq_nil_of_le (by rw [HL.out,List.length_map,<-qO.out];omega)];rfl);have hok:F_ bl x.sn:=λb hb=>by
    obtain ⟨j,hj,e⟩:=List.getElem_of_mem hb;exact ⟨hrg.out j b (by have:=qO.out;omega) (by rw [zF hj,e]),(hbs b hb).2.1⟩
   have hmk:=λw'=>JH x.sn (by omega) w';obtain ⟨w5,hw5⟩:=zB (wr.alloc (.cells (List.replicate x.sn (Value.slice none 0 0)).toArray 48));have b5:=zA hw5;have hrow:m_ w5 wr.heap.size x.sn (List.replicate x.sn (Value.slice none 0 0)).toArray (List.replicate x.sn ⟨none,0,0,[]⟩):=by
    refine ⟨by rw [hw5];exact heap_alloc_new _ _,by simp,λj t ht=>?_⟩;have hm:=List.eq_of_mem_replicate (zD ht);have hj:=(zE.1 ht).1;rw [List.length_replicate] at hj;rw [hm];simp [hj,Sh.val]
   have EF:=hrow.ai λt ht=>by rw [List.eq_of_mem_replicate ht];exact ⟨gK _,zG _,λ_=>⟨rfl,rfl⟩⟩
   have CB:=adm BA bn bc bl x.sn x.m j_ qC Eb hok x.m 0 (some ⟨wr.heap.size,0,none⟩) x.sn _ w5 (by omega) (hB.below (bel (bel hb1 hbr) b5)) EF (λe=>(nomatch e)) (λt ht=>by rw [List.eq_of_mem_replicate ht];exact ⟨List.Pairwise.nil,λy hy=>(by cases hy),λ_=>⟨rfl,rfl⟩⟩);rw [show (List.replicate x.sn (⟨none,0,0,[]⟩:Sh)).map Sh.l=List.replicate x.sn [] by rw [List.map_replicate],<-HP.out,show ((0:Nat):Int)=0 from rfl,<-HE.out] at CB;clear hrr hrg hok hrow EF;go_wp2_with fail;rw [hw5] at CB b5;refine CB.mono ?_;rintro e w6 ⟨rfl,b6⟩;go_wp2_with fail;go_ret;exact ⟨rfl,bel hb1 (bel (bel hbr b5) b6)⟩
end Go.Proofs.YtippdjmpkafifaaGreat
