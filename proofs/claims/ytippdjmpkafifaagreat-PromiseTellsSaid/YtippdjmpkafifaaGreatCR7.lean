import Derived.Test.YtippdjmpkafifaaGreatCR6
import Derived.Test.YtippdjmpkafifaaGreatCR4
import Derived.Test.YtippdjmpkafifaaGreatCR5
set_option maxRecDepth 100000
set_option maxHeartbeats 64000000
namespace Go.Proofs.YtippdjmpkafifaaGreat
open Go.RowKit
namespace K
theorem UU {m:Nat} {row:ag} {x:Lb}:∀ {i:Nat},x ∈ gI m row i->∃ k,k < i/\m.testBit k=true/\x=⟨m,k,(row[k]?).getD (-1)⟩
 | 0,h=>by simp [gI] at h
 | i + 1,h=>by
  rw [gI] at h;rcases dX.1 h with h | h
  ·obtain ⟨k,hk,h2⟩:=UU h;exact ⟨k,by omega,h2⟩
  ·by_cases hb:m.testBit i=true
   ·rw [if_pos hb] at h;exact ⟨i,by omega,hb,dB.1 h⟩
   ·rw [if_neg hb] at h;cases h
theorem UW {n:Nat} {t:List (List Int)} {x:Lb}:∀ {M:Nat},x ∈ jX n t M->∃ m,m < M/\x ∈ gI m ((t[m]?).getD []) n
 | 0,h=>by simp [jX] at h
 | M + 1,h=>by
  rw [jX] at h;rcases dX.1 h with h | h
  ·obtain ⟨m,hm,h2⟩:=UW h;exact ⟨m,by omega,h2⟩
  ·exact ⟨M,by omega,h⟩
end K
theorem dZ.bG {w:World} {b mb:Nat} {p:PS} {X:Nat->Prop} (h:dZ w b mb p X):∀ x ∈ K.bG p.x.nd p.x.l p.x.s p.x.r p.l,JV p x:=by
 intro x hx;unfold K.bG at hx;rw [if_pos h.ok] at hx;obtain ⟨m,hm,hx⟩:=K.UW hx;obtain ⟨k,hk,-,rfl⟩:=K.UU hx;obtain ⟨j,q,hel,hno,hse,-⟩:=h.elem (k:=k) (by rw [h.set.1];exact hk);refine ⟨k,j,q,hel,rfl,hno,?_⟩;rw [K.yf hm,Option.getD_some];have MV:∀ i ∈ p.l,0<=(K.req p.x.r i).service:=λi hi=>by
  obtain ⟨k2,hk2⟩:=List.mem_iff_getElem?.1 hi;obtain ⟨j2,q2,aaj,-,ahW,-⟩:=h.elem (k:=k2) (by rw [h.set.1];exact (zE.1 hk2).1);have h1:=aaj.set;rw [hk2] at h1;injection h1 with h1;rw [h1,K.lZ aaj.req];exact ahW.1
 have hb:=K.Oi (nd:=p.x.nd) (l:=p.x.l) (s:=p.x.s) (r:=p.x.r) (v:=p.l) (t:=K.table p.x.nd p.x.l p.x.s p.x.r p.l m) (m:=m) MV;have hkl:k < (K.rowOf p.x.nd p.x.l p.x.s p.x.r p.l (K.table p.x.nd p.x.l p.x.s p.x.r p.l m) m).length:=by rw [K.xW];exact hk
 rw [zF hkl,Option.getD_some];exact hb _ (List.getElem_mem hkl)
theorem K.UG (nd:Int) (l:List Ro) (s:S) (r:List Q) (v:ag):(K.bG nd l s r v).length<=1000:=by
 unfold K.bG;split
 ·rename_i h
  have hl:=(K.jl h).2.2.2.2.1;have h1:=K.Oy v.length (K.table nd l s r v (2 ^ v.length)) (2 ^ v.length);have h2:2 ^ v.length<=64:=Nat.pow_le_pow_right (n:=2) (by omega) hl;have h3:2 ^ v.length * v.length<=64 * 6:=Nat.mul_le_mul h2 hl;omega
 ·simp
theorem afE (x:C) (sh:Int) (V:aj) (vn vc:Nat) (v:ag) (LA:aj) (ln lc:Nat) (l:List Lb) (w:World) (hx:At w x) (hV:Ints w V vn v) (jV:vn<=vc) (hvn:vn<=1000000000) (hL:gY w LA ln l) (hln:ln<=1000000000) :
  ay 88 #[.agg #[.int .i64 x.nd,.slice x.A x.n x.c],fG x.s,.slice x.B x.m x.d,.agg #[.int .i64 sh,.slice V vn vc,.slice LA ln lc]] w (bg w (K.blocks x.nd x.l x.s x.r v l)):=by
 obtain ⟨w1,hw1⟩:=zB (w.alloc (.cells #[.int .i64 x.nd,.slice x.A x.n x.c] 24));obtain ⟨w2,hw2⟩:=zB (w1.alloc (.cells #[.int .i64 x.s.day,.int .i64 x.s.ax,.int .i64 x.s.start,.int .i64 x.s.end_,.int .i64 x.s.aU,.slice x.s.A x.s.n x.s.c] 63));obtain ⟨w3,hw3⟩:=zB (w2.alloc (.cells #[.int .i64 sh,.slice V vn vc,.slice LA ln lc] 90));have z1:w1.heap.size=w.heap.size + 1:=by rw [hw1];exact aF _ _
 have z2:w2.heap.size=w.heap.size + 1 + 1:=by rw [hw2,aF,z1]
 have b01:=aH hw1;have b12:=aH hw2;have bQ:=aH hw3;have hP:Net w3 w.heap.size x.nd x.A x.n x.c:=by
  have h1:Net w1 w.heap.size x.nd x.A x.n x.c:=by rw [hw1];exact Net.new _ _ _ _ _
  exact (h1.below b12).below bQ
 have hS:bI w3 (w.heap.size + 1) x.s:=by
  have h1:bI w2 (w.heap.size + 1) x.s:=by rw [<-z1,hw2];exact bI.new _ _
  exact h1.below bQ
 have hB:w3.heap[w.heap.size + 1 + 1]? = some (.cells #[.int .i64 sh,.slice V vn vc,.slice LA ln lc] 90 (0,0)):=by rw [<-z2,hw3];exact aA _ _
 have b3:=bel (bel b01 b12) bQ;go_enter Tryz.func88,Tryz.ntmps88;go_wp2_with fail;rw [<-hw1,<-hw2,<-hw3];clear hw1 hw2 hw3 z1 z2 b01 b12 bQ;refine (Vl x V vn vc v _ (hx.below b3) (hV.below b3) jV hvn).mono ?_;rintro e w4 ⟨hret,iw⟩;have hP:=hP.below iw;have hS:=hS.below iw;have hB:=au iw hB;have hb:=bel b3 iw;have hsz:=b3.size;clear b3 iw;rcases hret with ⟨hok,rfl⟩ | ⟨b,mb,rfl,hbb,hbm,hPl⟩
 ·have HX:=zC (show K.blocks x.nd x.l x.s x.r v l=false by simp [K.blocks,hok]);clear hok;go_wp2_with fail;go_quiet (fail);go_wp2_with fail;go_ret;exact ⟨aK HX.out.symm,below_drewN (bel hb (ai.alloc (zG _) _)) _⟩
 have hp:=hPl (λ_=>False);clear hPl;have aY:=zC (show K.bF x.nd x.l x.s x.r v=true from hp.ok);have bM:=zC hV.1;have hv6:vn<=6:=by have:=(K.jl hp.ok).2.2.2.2.1;have:=hV.1;dsimp only at *;omega
 obtain ⟨w5,hw5⟩:=zB (w4.alloc (.cells #[.pointer (some ⟨b,0,none⟩)] 162));have bJ:=aH hw5;have hG:w5.heap[w4.heap.size]? = some (.cells #[.pointer (some ⟨b,0,none⟩)] 162 (0,0)):=by rw [hw5];exact aA _ _
 have ZA:=hP.below bJ;have hS5:=hS.below bJ;have jH:=au bJ hB;cases hv0:((vn:Int) == 0);rotate_left
 ·have HX:=zC (show K.blocks x.nd x.l x.s x.r v l=false by
   have h0:vn=0:=by simpa using hv0
   have h1:v.length=0:=by rw [<-bM.out];exact h0
   simp [K.blocks,h1])
  have c1:=ah jH 1 _ rfl;rw [hw5] at c1;go_wp2_with fail;rw [<-hw5];have c1:=ah jH 1 _ rfl;go_quiet (fail);go_wp2_with fail;go_ret;exact ⟨aK HX.out.symm,below_drewN (bel hb bJ) _⟩
 have hb5:=bel hb bJ;have uN:=zC (show ¬ vn=0 by simpa using hv0);have vI:=hp.below bJ;have hmk:∀ w',af w5 w'->(λw'=>af w5 w'/\w'.cell? ⟨w.heap.size,0,none⟩=some (.int .i64 x.nd)/\w'.cell? ⟨w.heap.size,1,none⟩=some (.slice x.A x.n x.c)/\w'.cell? ⟨w.heap.size + 1,0,none⟩=some (.int .i64 x.s.day)/\w'.cell? ⟨w.heap.size + 1,1,none⟩=some (.int .i64 x.s.ax)/\w'.cell? ⟨w.heap.size + 1,2,none⟩=some (.int .i64 x.s.start)/\w'.cell? ⟨w.heap.size + 1,3,none⟩=some (.int .i64 x.s.end_)/\w'.cell? ⟨w.heap.size + 1,4,none⟩=some (.int .i64 x.s.aU)/\w'.cell? ⟨w.heap.size + 1,5,none⟩=some (.slice x.s.A x.s.n x.s.c)/\w'.cell? ⟨w.heap.size + 1 + 1,0,none⟩=some (.int .i64 sh)/\w'.cell? ⟨w.heap.size + 1 + 1,1,none⟩=some (.slice V vn vc)/\w'.cell? ⟨w.heap.size + 1 + 1,2,none⟩=some (.slice LA ln lc)) w':=λw' h=>by
  have h1:=ZA.below h;obtain ⟨s0,s1,s2,s3,s4,s5⟩:=(hS5.below h).cells;have h3:=au h jH;exact ⟨h,h1.c0,h1.c1,s0,s1,s2,s3,s4,s5,ah h3 0 _ rfl,ah h3 1 _ rfl,ah h3 2 _ rfl⟩
 have S0:=hmk _ ai;have aQ:=hmk w5.drew (dK w5).drew;have Y0:=bel hb5 (w2:=w5.drew) (dK w5).drew;go_wp2_with fail;rw [<-hw5];clear hw5 hP hS hB ZA bJ
 go_region_held3 (λw'=>af w5 w'/\w'.cell? ⟨w.heap.size,0,none⟩=some (.int .i64 x.nd)/\w'.cell? ⟨w.heap.size,1,none⟩=some (.slice x.A x.n x.c)/\w'.cell? ⟨w.heap.size + 1,0,none⟩=some (.int .i64 x.s.day)/\w'.cell? ⟨w.heap.size + 1,1,none⟩=some (.int .i64 x.s.ax)/\w'.cell? ⟨w.heap.size + 1,2,none⟩=some (.int .i64 x.s.start)/\w'.cell? ⟨w.heap.size + 1,3,none⟩=some (.int .i64 x.s.end_)/\w'.cell? ⟨w.heap.size + 1,4,none⟩=some (.int .i64 x.s.aU)/\w'.cell? ⟨w.heap.size + 1,5,none⟩=some (.slice x.s.A x.s.n x.s.c)/\w'.cell? ⟨w.heap.size + 1 + 1,0,none⟩=some (.int .i64 sh)/\w'.cell? ⟨w.heap.size + 1 + 1,1,none⟩=some (.slice V vn vc)/\w'.cell? ⟨w.heap.size + 1 + 1,2,none⟩=some (.slice LA ln lc))
  (first | assumption | exact S0 | exact aQ)
  (first
   | (go_at_call 78;refine (aiu x V vn vc v w5.drew (hx.below Y0) (hV.below Y0) jV hvn).mono ?_;rintro e w6 ⟨⟨A6,n6,c6,rfl,dS⟩,b6⟩;have KX:af w5 w6:=bel (w1:=w5.drew) ai.drew b6;have S6:=hmk _ KX)
   | (go_at_call 138;refine (agb LA A6 ln n6 lc c6 l (K.bG x.nd x.l x.s x.r v) w6 (aX.below hL (bel hb5 KX)) dS hln (by rw [dS.1];exact aN (K.UG _ _ _ _ _) (by omega))).mono ?_;rintro e w7 ⟨rfl,b7⟩;have h57:=bel KX b7;have S7:=hmk _ h57)
   | fail)
 obtain ⟨z,hz⟩:=zB (decide (l=K.bG x.nd x.l x.s x.r v));rw [<-hz];have HZ:=zC hz;have hb7:=bel hb5 h57;clear S0 aQ S6 KX dS b6 b7 hmk hz;cases z
 ·have HX:=zC (show K.blocks x.nd x.l x.s x.r v l=false by unfold K.blocks;rw [<-HZ.out];simp);clear S7;go_wp2_with fail;go_ret;exact ⟨aK HX.out.symm,hb7⟩
 ·have hll:l=K.bG x.nd x.l x.s x.r v:=iH HZ.out.symm;obtain ⟨N,hN⟩:∃ N,N=2 ^ vn:=⟨_,rfl⟩;have hN1:1<=N:=by rw [hN];exact Nat.two_pow_pos vn
  have GY:N<=64:=by rw [hN];exact Nat.pow_le_pow_right (by omega) hv6
  have hw1:IntKind.i64.wrap ((2:Int) ^ vn)=(N:Int):=by rw [sG (by omega),hN];simp
  have hw2:wrap64 ((2:Int) ^ vn)=(N:Int):=by rw [<-IntWalk.i64_left];exact hw1
  have wH:=zC hN;clear hN;obtain ⟨al,hal⟩:=zB (N - 1);have hw3:IntKind.i64.wrap ((N:Int) - 1)=(al:Int):=by rw [dh _ (by omega)];omega
  have hw4:wrap64 ((N:Int) - 1)=(al:Int):=by rw [<-IntWalk.i64_left];exact hw3
  have HX:=zC (show K.blocks x.nd x.l x.s x.r v l=!(l.any (K.opensAt x.nd x.l x.s x.r v al)) by
   unfold K.blocks;rw [<-HZ.out,aY.out,hal,wH.out,bM.out];have h0:(v.length == 0)=false:=by have:=uN.out;rw [bM.out] at this;simpa using this
   rw [h0];simp)
  have aaB:∀ y ∈ l,JV ⟨x,V,vn,vc,v⟩ y:=by rw [hll];exact hp.bG
  have hal2:al < 256:=by omega
  obtain ⟨w8,hw8⟩:=zB (w7.alloc (.cells #[.int .i64 (al:Int)] 3));have rq:=aH hw8;have KY:=bel h57 rq;have hA:w8.heap[w7.heap.size]? = some (.cells #[.int .i64 (al:Int)] 3 (0,0)):=by rw [hw8];exact aA _ _
  have e2:=ah (au KY jH) 2 _ rfl;have e1:=ah (au h57 jH) 1 _ rfl;rw [hw8] at e2;have hp8:=vI.below KY;have CC:=af5 b mb ⟨x,V,vn,vc,v⟩ al w7.heap.size w4.heap.size (w.heap.size + 1) LA ln lc l w8 hp8 (λg hg=>hg.elim) hA (au KY hG) (hS5.below KY) hal2 (aX.below hL (bel hb7 rq)) hln aaB;obtain ⟨r9,gU⟩:=zB (l.any (K.opensAt x.nd x.l x.s x.r v al));simp only [<-gU] at CC;rw [<-gU] at HX;clear S7 hal gU hll aaB;go_wp2_with fail;rw [<-hw8];clear e1 e2 hw8;refine CC.mono ?_;rintro e w9 ⟨rfl,hW⟩;go_wp2_with fail;go_ret;exact ⟨aK HX.out.symm,dY (bel hb7 rq) hW.1 (λg e=>by injection e with e;omega)⟩
theorem acd (A:aj) (n c:Nat) (l:ag) (m:Nat) (w:World) (hl:Ints w A n l) (hn:n<=8) (hm:m < 256) :
  ay 183 #[.slice A n c,.int .i64 m] w λe w'=>JZ w w' (K.part l m) e:=by
 have bM:=zC hl.1;go_enter Tryz.func183,Tryz.ntmps183;go_wp2_with fail;go_loopw [5,6] (λv5 v6 wr=>∃ (k:Nat),v6=.int .i64 k/\k<=n/\wr.ownsRow w.heap.size 3 1 v5 (K.part (l.take k) m).length (intCells (K.part (l.take k) m))/\af w wr) (λ_ v6 _=>n - (intOf v6).toNat)
 case atStart=>exact ⟨0,rfl,by omega,kF _ _ _ _,ai⟩
 case round =>
  obtain ⟨k,rfl,hk,hown,hbr⟩:=hrel;by_cases hlt:k < n
  ·obtain ⟨jJ,i,rfl,hi,ci⟩:=(hl.below hbr).at_ hlt;obtain ⟨k0,k1⟩:=zJ (a:=k) (b:=n) (by omega);have HT:=zC (take_snoc hi);have sQ:=zC (show (l.take k).length=k by rw [List.length_take,<-bM.out];omega);have hpl:(K.part (l.take k) m).length<=8:=by have:=K.qM (l.take k) m;rw [sQ.out] at this;omega
   clear hi;cases hbit:m.testBit k
   ·have hb1:bits BinOp.and IntKind.i64 ((m:Int) / 2 ^ k) 1=0:=by rw [oP hm (by omega),hbit];rfl
    have HN:=zC (show K.part (l.take (k + 1)) m=K.part (l.take k) m by rw [HT.out,K.EQ,sQ.out,hbit];simp);clear hbit;go_wp2_with fail;go_roundw
    case rel=>exact ⟨k + 1,by go_num,by omega,by rw [HN.out];exact hown,hbr⟩
    case measure=>simp [intOf];omega
   ·have hb1:bits BinOp.and IntKind.i64 ((m:Int) / 2 ^ k) 1=1:=by rw [oP hm (by omega),hbit];rfl
    have HN:=zC (show K.part (l.take (k + 1)) m=K.part (l.take k) m ++ [i] by rw [HT.out,K.EQ,sQ.out,hbit];simp);have ha:af wr (wr.alloc (.cells #[.int .i64 i] 3)):=ai.alloc (zG _) _;have hown2:=own_below hown ha;have hs2:w.heap.size<=(wr.alloc (.cells #[.int .i64 i] 3)).heap.size:=aN hbr.size ha.size;clear hbit;go_wp2_with (at_builtin;refine wU rfl (.tmp 18) (.tmp 23) rfl w.heap.size u5 (K.part (l.take k) m).length (K.part (l.take k) m) rfl hown2 wr.heap.size i rfl (bU _ _ _ rfl) (by omega) hs2 ?_;intro tv' w6 hown6 hgrow6 gy);have b6:=dY (bel hbr ha) hgrow6 (λg e=>(hown.lt g e).1);have HS:=zC (show (K.part (l.take k) m).length + 1=(K.part (l.take (k + 1)) m).length by rw [HN.out,cZ];rfl);rw [<-HN.out,HS.out] at hown6;clear hgrow6 gy hown2 hown;go_roundw
    case rel=>exact ⟨k + 1,by go_num,by omega,hown6,b6⟩
    case measure=>simp [intOf];omega
  ·have HN:=zC (show l.take k=l by exact fD (by rw [<-bM.out];omega));rw [HN.out] at hown;obtain ⟨A9,c9,rfl,hI⟩:=o_ hown rfl;go_wp2_with fail;go_ret;exact ⟨⟨_,_,_,rfl,hI⟩,hbr⟩
namespace K
def VY (nd:Int) (l:List Ro) (s:S) (r:List Q) (o:ag) (s':S) (r':List Q) (o':ag):Prop :=
 (run nd l s' r' o').e=0/\(run nd l s' r' o').bC.end_<=(run nd l s r o).bC.end_
theorem YM {nd:Int} {l:List Ro} {s:S} {r:List Q} {o:ag} (h:right nd l s r o=true):Fine nd r o:=by
 obtain ⟨h1,h2,h3,h4⟩:=Ad h;obtain ⟨h5,h6,h7⟩:=T.mO h2;intro i hi;have hb:=T.EN h6 i hi;obtain ⟨q,hq⟩:∃ q,r[i.toNat]? = some q:=⟨_,zF (by omega)⟩;have hr:=Dl (h7 q (zD hq));have e:req r i=q:=by unfold req;rw [hq];rfl
 have:=h4 i hi;rw [e] at this ⊢;exact ⟨⟨hr.1.1,this⟩,hr.2.1.1⟩
theorem alQ {nd:Int} {l:List Ro} {s:S} {r:List Q} {o1 o2:ag} {i:Int} (h:(run nd l s r (o1 ++ i :: o2)).e=0) :
  VY nd l s r (o1 ++ i :: o2) s r (o1 ++ o2)/\∃ t1 t2 t2' b,(run nd l s r (o1 ++ i :: o2)).bC.times=t1 ++ b :: t2/\(run nd l s r (o1 ++ o2)).bC.times=t1 ++ t2'/\t1.length=o1.length/\Ahead t2' t2:=by
 obtain ⟨h1,h2,h3,h4⟩:=xY h;obtain ⟨p1,p2,p3,p4⟩:=Ad h1;obtain ⟨-,⟨d0,d1⟩,st0,st1,-⟩:=tu (T.mO p2).1;have rH:=YM h1;have hsub:(o1 ++ o2).Sublist (o1 ++ i :: o2):=(List.Sublist.refl o1).append (List.sublist_cons_self i o2);have hr':=akH h1 hsub;have hp1:=(aiI (nd:=nd) (l:=l) (s:=s) (r:=r) (o1 ++ i :: o2) [] s.ax s.start o1.length).1 (by
  have:=(abh (nd:=nd) (l:=l) (s:=s) (r:=r) (o1 ++ i :: o2) [] s.ax s.start).1 h2;rw [this,cZ];omega)
 rw [List.take_left] at hp1;have e1:(aB nd l s r [] s.ax s.start o1).e=0:=hp1.1;have hl1:=(abh (nd:=nd) (l:=l) (s:=s) (r:=r) o1 [] s.ax s.start).1 e1;have hA:=abf o1 [] s.ax s.start (i :: o2) e1;have hB:=abf o1 [] s.ax s.start o2 e1;rw [List.nil_append] at hA hB;obtain ⟨ha,ht⟩:=aiF o1 [] s.ax s.start (λj hj=>rH j (List.mem_append_left _ hj)) ⟨d0,p3⟩ st0 e1;obtain ⟨a,hae⟩:=zB ((aB nd l s r [] s.ax s.start o1).a);obtain ⟨t,hte⟩:=zB ((aB nd l s r [] s.ax s.start o1).t);rw [<-hae,<-hte] at hA hB;rw [<-hae] at ha;rw [<-hte] at ht;have e2:(aB nd l s r o1 a t (i :: o2)).e=0:=by
  have:(aB nd l s r [] s.ax s.start (o1 ++ i :: o2)).e=0:=h2;rw [hA] at this;exact this
 obtain ⟨k1,k2⟩:=Np e2;have e3:(aB nd l s r (o1 ++ [i]) (req r i).node ((aG nd l s r o1 i a t).1 + (req r i).service) o2).e=0:=by rw [k2] at e2;exact e2
 obtain ⟨⟨n0,n1⟩,n2⟩:=rH i (by simp);obtain ⟨-,-,l3,l4,l5,l6,l7⟩:=zW k1;obtain ⟨r1,r2,r3,r4⟩:=rX l4;obtain ⟨-,-,-,f4,-⟩:=H.oZ l5;have hpi:(o1 ++ [i]).Sublist (o1 ++ i :: o2):=(List.Sublist.refl o1).append (by simp);have hw0:T.weight s r o1<=T.weight s r (o1 ++ [i]):=T.aen (T.IW p2 hpi) (by simp);have hd:Dom nd l s r (o1 ++ [i]) (req r i).node ((aG nd l s r o1 i a t).1 + (req r i).service) s r o1 a t:=by
  intro c hc hrc;obtain ⟨w1,w2,w3,w4⟩:=rX hrc;obtain ⟨g1,g2,g3⟩:=amz p1 ha ⟨n0,n1⟩ hc hw0 r1 w1;have:t + way nd l a (T.weight s r o1) c<=(reach nd l s r (o1 ++ [i]) (req r i).node ((aG nd l s r o1 i a t).1 + (req r i).service) c).1:=by
   rw [w3,l6];omega
  rw [acD g1 (by omega)];exact ⟨rfl,by simp only;omega,by simp only;exact this⟩
 have hsubs:∀ p,p <+: o2->(o1 ++ p).Sublist (o1 ++ [i] ++ p)/\T.load s r (o1 ++ [i] ++ p)=true:=λp hp=>by
  refine ⟨by simp,T.IW p2 ?_⟩;rw [jb];exact (List.Sublist.refl o1).append (List.Sublist.cons_cons i hp.sublist)
 obtain ⟨g1,g2,g3⟩:=aiG p1 (s:=s) (s':=s) rfl (Int.le_refl _) o2 (o1 ++ [i]) o1 _ _ _ _ (λ_ _=>⟨rfl,rfl,rfl,rfl,rfl⟩) (λj hj=>rH j (by simp [hj])) (λp hp=>T.aen (hsubs p hp).2 (hsubs p hp).1) (λp hp hf=>T.agM hf (hsubs p hp).1) hd e3;have hb:=g3 s.ax ⟨d0,p3⟩ (by
  have h9:=h3;unfold back all at h9;rw [hA,k2] at h9;simp only at h9;simpa using h9)
 have hall:(all nd l s r (o1 ++ o2)).e=0:=by unfold all;rw [hB];exact g1
 have hb1:(back nd l s r (o1 ++ o2)).2=0:=by unfold back all;rw [hB];exact hb.1
 have h5:=run_mk hr' hall hb1;unfold VY;rw [h5,h4];refine ⟨⟨rfl,?_⟩,(aB nd l s r [] s.ax s.start o1).times,(aB nd l s r (o1 ++ [i]) (req r i).node ((aG nd l s r o1 i a t).1 + (req r i).service) o2).times,(aB nd l s r o1 a t o2).times,(aG nd l s r o1 i a t).1,?_,?_,hl1,g2⟩
 ·have:=hb.2.2;unfold back all;rw [hA,hB,k2];simp only;simpa using this
 ·simp only;unfold all;rw [hA,k2]
 ·simp only;unfold all;rw [hB]
end K
theorem Tryz.info47:(Tryz.prog.info? 47).map (λi=>(i.zero,i.size,i.bytes))=some (some (.agg #[.int .i64 0,.int .i64 0,.int .i64 0,.int .i64 0,.int .i64 0,.int .i64 0,.slice none 0 0]),7,72):=by kernel_rfl
theorem x_ {P:Program} {w:World} {ops:Array Oper} {o:Oper} {a:Act} {K:Act->World->Prop} {Q:Exit->Act->World->Prop} {E:Prop} (hgd:o.guard=none) (s x:Operand) (t:TypeId)
  (ho:o.op=.call { callee:=.builtin .append,args:=#[s,x],argTypes:=#[t,t] })
  (base:Nat) (e:TypeId) (i:TypeInfo) (z:Value) (size bytes:Nat) (ht:P.underlying t=some (.slice e)) (hi:P.info? e=some i) (hz:i.zero=some z)
  (hsize:i.size=size) (hby:i.bytes=bytes) (hzs:z.cells.size=size) (hsz:0 < size)
  (v:Value) (n:Nat) (xs:List Value) (hs:a.eval s=v) (hown:w.ownsRow base e size v n xs)
  (A:aj) (m c:Nat) (news:List Value) (hx:a.eval x=.slice A m c) (hr:Rd w size A m news) (h1:∀ u ∈ news,u.oneCell'=true)
  (h63:n + m<=maxLen) (hbytes:(n + m) * bytes<=140737488355328) (hbase:base<=w.heap.size)
  (h:∀ v' w',w'.ownsRow base e size v' (n + m) (xs ++ news)->w.grownBy w' v.ownBlock->(v'.ownBlock=v.ownBlock\/v'.ownBlock=some w.heap.size)->K (a.put o.dst v') w') :
  if Region.wanted o (yielded ops a.tmps)=true then Oper.wp P o a w K Q else E:=by
 have hw:Region.wanted o (yielded ops a.tmps)=true:=by simp [Region.wanted,hgd]
 rw [if_pos hw];obtain ⟨v',w',hrun,h2,h3,h4⟩:=adw (P:=P) w base t o.type e i z size bytes ht hi hz hsize hby hzs hsz v n xs hown A m c news hr h1 h63 hbytes hbase;unfold Oper.wp execOp;simp only [ho,resolve,invoke,builtin,Sem.run_bind,Sem.run_pure,Result.andThen_ok,List.map_toArray,List.map_cons,List.map_nil,hs,hx,hrun];exact h v' w' h2 h3 h4
theorem Ints.drop {w:World} {A:aj} {n:Nat} {l:ag} (h:Ints w A n l) {ad:Addr} (e:A=some ad) {k:Nat} (hk:k<=n):Ints w (some (ad.add k)) (n - k) (l.drop k):=by
 subst e;refine ⟨by rw [List.length_drop,<-h.1],by simp [intCells];have:=h.1;omega,λh0=>?_⟩;obtain ⟨ad',e,hc⟩:=h.2.2 (by omega);injection e with e;subst e;refine ⟨_,rfl,λj u hu=>?_⟩;rw [intCells,List.map_drop,List.getElem?_drop] at hu;rw [add_add];exact hc (k + j) u hu
theorem uy {w:World} {base g:Nat} {e:TypeId} {size:Nat} (h:w.heap[g]? = some (.cells #[] e (0,0))) (hb:base<=g):w.ownsRow base e size (.slice (some ⟨g,0,none⟩) 0 0) 0 [] :=
 ⟨by simp,.inr ⟨g,0,#[],rfl,hb,h,zG _,by simp [maxLen],by simp,by simp⟩⟩
theorem CQ {base b n c:Nat} (h:base<=b):∀ g,(Value.slice (some ⟨b,0,none⟩) n c).ownBlock=some g->base<=g:=λg e=>by
 have e:some b=some g:=e;injection e with e;omega
theorem abq {g b n c:Nat} (h:g ≠ b):some g ≠ (Value.slice (some ⟨b,0,none⟩) n c).ownBlock:=λe=>by
 have e:some g=some b:=e;injection e with e;exact h e
theorem D7 {α:Type} {l:List α} {k:Nat} {a:α} (h:l[k]? = some a):l.drop k=a :: l.drop (k + 1):=by
 obtain ⟨hk,e⟩:=zE.1 h;rw [jE hk,e]
theorem ado (x:C) (V:aj) (vn vc:Nat) (v:ag) (w:World) (hx:At w x) (hV:Ints w V vn v) (hvn:vn<=1000000000) :
  ay 179 #[.agg #[.int .i64 x.nd,.slice x.A x.n x.c],fG x.s,.slice x.B x.m x.d,.slice V vn vc] w (bg w (K.right x.nd x.l x.s x.r v)):=by
 have b0:=((dK w).alloc (zG _) (.cells #[.int .i64 x.nd,.slice x.A x.n x.c] 24)).alloc (by rw [aF];omega) (.cells #[.int .i64 x.s.day,.int .i64 x.s.ax,.int .i64 x.s.start,.int .i64 x.s.end_,.int .i64 x.s.aU,.slice x.s.A x.s.n x.s.c] 63);have SZ:=aF w (.cells #[.int .i64 x.nd,.slice x.A x.n x.c] 24);have hP:=(Net.new w x.nd x.A x.n x.c).below (ai.alloc (zG _) (.cells #[.int .i64 x.s.day,.int .i64 x.s.ax,.int .i64 x.s.start,.int .i64 x.s.end_,.int .i64 x.s.aU,.slice x.s.A x.s.n x.s.c] 63));have hS:=bI.new (w.alloc (.cells #[.int .i64 x.nd,.slice x.A x.n x.c] 24)) x.s;rw [SZ] at hS;have p0:=hP.c0;have p1:=hP.c1;go_enter Tryz.func179,Tryz.ntmps179;go_wp2_with fail;obtain ⟨w0,hw0⟩:=zB ((w.alloc (.cells #[.int .i64 x.nd,.slice x.A x.n x.c] 24)).alloc (.cells #[.int .i64 x.s.day,.int .i64 x.s.ax,.int .i64 x.s.start,.int .i64 x.s.end_,.int .i64 x.s.aU,.slice x.s.A x.s.n x.s.c] 63));rw [<-hw0] at b0 hP hS ⊢;clear hw0 p0 p1 SZ;refine (Jf x.nd x.A x.n x.c x.l _ (aX.below hx.net b0) hx.b1).mono ?_;rintro e w1 ⟨rfl,b1⟩;have hP:=hP.below b1;have hS:=hS.below b1;have hb:=bel b0 b1;clear b0 b1;have p0:=hP.c0;have p1:=hP.c1;obtain ⟨s0,s1,s2,s3,s4,s5⟩:=hS.cells;cases h1:(K.aZ x.nd x.l == 0)
 ·have HX:=zC (show K.right x.nd x.l x.s x.r v=false by simp [K.right,h1]);have h1':(K.aZ x.nd x.l != 0)=true:=by simp [bne,h1]
  clear h1;go_wp2_with fail;go_ret;exact ⟨aK HX.out.symm,hb⟩
 have h1':(K.aZ x.nd x.l != 0)=false:=by simp [bne,h1]
 have HE:=zC h1;clear h1;go_wp2_with fail;refine (UM x.s x.B x.m x.d x.r V vn vc v _ (hx.below hb).gW hx.b2 (hx.below hb).bf hx.b3 hx.b4 (hV.below hb) hvn).mono ?_;rintro e w2 ⟨rfl,b2⟩;have hP:=hP.below b2;have hS:=hS.below b2;have hb:=bel hb b2;clear b2 p0 p1 s0 s1 s2 s3 s4 s5;have p0:=hP.c0;have p1:=hP.c1;obtain ⟨s0,s1,s2,s3,s4,s5⟩:=hS.cells;cases h2:T.load x.s x.r v
 ·have HX:=zC (show K.right x.nd x.l x.s x.r v=false by simp [K.right,h2]);clear h2;go_wp2_with fail;go_ret;exact ⟨aK HX.out.symm,hb⟩
 have HL:=zC h2;clear h2;by_cases h3:x.s.ax < x.nd
 ·have HX:=zC (show K.right x.nd x.l x.s x.r v=v.all λi=>decide ((K.req x.r i).node < x.nd) by simp only [K.right];rw [HE.out,HL.out];simp [h3]);have hset:=zC (T.EN (T.mO HL.out).2.1);go_wp2_with fail;go_loopw [9] (λvi wr=>∃ k:Nat,vi=.int .i64 k/\k<=vn/\Hid (K.right x.nd x.l x.s x.r v=(v.drop k).all λi=>decide ((K.req x.r i).node < x.nd))/\af w2 wr) (λvi _=>vn - (intOf vi).toNat)
  case atStart=>exact ⟨0,rfl,by omega,HX.out,ai⟩
  case round =>
   obtain ⟨k,rfl,hk,hr,hbr⟩:=hrel;by_cases hlt:k < vn
   ·obtain ⟨jJ,i,rfl,hi,ci⟩:=(hV.below (bel hb hbr)).at_ hlt;have HS:=zC (K.XD (nd:=x.nd) (r:=x.r) hi);obtain ⟨hi0,hi1⟩:=hset.out i (zD hi);obtain ⟨j,rfl⟩:∃ j:Nat,i=(j:Int):=⟨i.toNat,by omega⟩;have hjm:j < x.m:=by rw [hx.bf.1];omega
    obtain ⟨ad,q,hB,hgq,hwq,e0,e1,e2,e3,e4,e5,e6⟩:=(hx.bf.below (bel hb hbr)).at_ hjm;have fQ:=zC (K.lZ hgq);have hP3:=hP.below hbr;have p0:=hP3.c0;obtain ⟨j0,j1⟩:=zJ (a:=j) (b:=x.m) (by omega);clear hi hgq;by_cases hn:q.node < x.nd
    ·have HN:=zC (show K.right x.nd x.l x.s x.r v=(v.drop (k + 1)).all λi=>decide ((K.req x.r i).node < x.nd) by rw [hr.out,HS.out,fQ.out];simp [hn]);rw [hB];go_wp2_with fail;go_quiet (fail);go_wp2_with fail;go_roundw
     case rel=>exact ⟨k + 1,by go_num,by omega,HN.out,below_drewN hbr _⟩
     case measure=>simp [intOf];omega
    ·have HN:=zC (show K.right x.nd x.l x.s x.r v=false by rw [hr.out,HS.out,fQ.out];simp [hn]);rw [hB];go_wp2_with fail;go_quiet (fail);go_wp2_with fail;go_ret;exact ⟨aK HN.out.symm,below_drewN (bel hb hbr) _⟩
   ·have HN:=zC (show K.right x.nd x.l x.s x.r v=true by rw [hr.out,dF (by rw [<-hV.1];omega)];rfl);go_wp2_with fail;go_ret;exact ⟨aK HN.out.symm,bel hb hbr⟩
 ·have HX:=zC (show K.right x.nd x.l x.s x.r v=false by simp [K.right,h3]);go_wp2_with fail;go_ret;exact ⟨aK HX.out.symm,hb⟩
theorem adC (nd:Int) (A:aj) (n c:Nat) (l:List Ro) (a:Int) (v:Nat) (k:Int) (w:World) (hl:gq w A n l) (hn:n<=1000000000) (hne:K.aZ nd l=0) (ha:0<=a/\a < nd) (hv:(v:Int) < nd) :
  ay 181 #[.agg #[.int .i64 nd,.slice A n c],.int .i64 a,.int .i64 v,.int .i64 k] w (og w (K.way nd l a k v)):=by
 have b0:=(dK w).alloc (zG _) (.cells #[.int .i64 nd,.slice A n c] 24);have hP:=Net.new w nd A n c;have p0:=hP.c0;have p1:=hP.c1;go_enter Tryz.func181,Tryz.ntmps181;go_wp2_with fail;refine (Om nd A n c l a k _ (aX.below hl b0) hn).mono ?_;rintro e w1 ⟨⟨A1,n1,c1,rfl,hI⟩,b1⟩;have hlen:=K.OD (k:=k) hne ha;obtain ⟨ad,y,rfl,hy,cy⟩:=hI.at_ (k:=v) (by rw [hI.1,hlen];omega);have hwy:K.way nd l a k v=y:=by unfold K.way;rw [G.Gp hy]
 have k0:(0:Int)<=(v:Int):=by omega
 have k1:(v:Int) < (n1:Int):=by rw [hI.1,hlen];omega
 have HW:=zC hwy;clear hlen hy hwy hI p0 p1;go_wp2_with fail;go_ret;exact ⟨by rw [HW.out];rfl,bel b0 b1⟩
namespace K
def o9 (n:Int):Int->List Int->Bool
 | _,[]=>true
 | p,k :: rest=>decide (0<=k) && (decide (k < n) && (decide (p < k) && o9 n k rest))
def r_ (l:ag) (n:Int):Bool:=o9 n (-1) l && decide (l.length<=6)
theorem ajq {n:Int} {v:ag} {k:Nat} {i:Int} (h:v[k]? = some i) (p:Int):o9 n p (v.drop k)=(decide (0<=i) && (decide (i < n) && (decide (p < i) && o9 n i (v.drop (k + 1))))):=by
 obtain ⟨hk,e⟩:=zE.1 h;rw [jE hk,e];rfl
theorem abX {n:Int}:∀ (l:ag) (p:Int),o9 n p l=true->(∀ x ∈ l,0<=x/\x < n)/\(∀ x ∈ l,p < x)/\l.Nodup
 | [],_,_=>⟨by simp,by simp,List.nodup_nil⟩
 | i :: l,p,h=>by
  simp only [o9,dH,gu] at h;obtain ⟨h1,h2,h3⟩:=abX l i h.2.2.2;refine ⟨λx hx=>?_,λx hx=>?_,List.nodup_cons.2 ⟨λhi=>by have:=h2 i hi;omega,h3⟩⟩
  ·rcases dw.1 hx with rfl | hx
   ·exact ⟨h.1,h.2.1⟩
   ·exact h1 x hx
  ·rcases dw.1 hx with rfl | hx
   ·exact h.2.2.1
   ·have:=h2 x hx;have:=h.2.2.1;omega
theorem adP {nd:Int} {r:List Q}:∀ (l:ag) (p:Int),l9 nd r p l=(o9 (r.length:Int) p l && l.all λi=>decide ((req r i).node < nd))
 | [],_=>rfl
 | i :: l,p=>by
  simp only [l9,o9,List.all_cons,adP l i];cases decide (0<=i) <;> cases decide (i < (r.length:Int)) <;> cases decide (p < i) <;> cases decide ((req r i).node < nd) <;> simp
theorem NG (nd:Int) (l:List Ro) (s:S) (r:List Q) (v:ag):bF nd l s r v=(r_ v (r.length:Int) && right nd l s r v):=by
 unfold bF r_ right;rw [adP];cases h1:o9 (r.length:Int) (-1) v
 ·simp
 ·obtain ⟨a,-,c⟩:=abX _ _ h1;have hs:T.isSet (r.length:Int) v=true:=T.zU.2 ⟨a,c⟩;unfold T.load;rw [hs];cases (aZ nd l == 0) <;> cases (T.check s == 0) <;> cases decide (s.ax < nd) <;> cases (r.any λq=>!T.right q) <;> cases decide (v.length<=6) <;> simp
end K
theorem alD (A:aj) (n c:Nat) (v:ag) (m:Int) (w:World) (hV:Ints w A n v) (hn:n<=1000000000) :
  ay 178 #[.slice A n c,.int .i64 m] w (bg w (K.r_ v m)):=by
 have bM:=zC hV.1;go_enter Tryz.func178,Tryz.ntmps178;go_wp2_with fail;go_loopw [5] (λv5 wr=>∃ k:Nat,v5=.int .i64 k/\k<=n/\Hid (K.o9 m (-1) v=K.o9 m (K.prev v k) (v.drop k))/\af w wr) (λv5 _=>n - (intOf v5).toNat)
 case atStart=>exact ⟨0,rfl,by omega,rfl,ai⟩
 case round =>
  obtain ⟨k,rfl,hk,hr,hbr⟩:=hrel;by_cases hlt:k < n
  ·obtain ⟨jJ,i,rfl,hi,ci⟩:=(hV.below hbr).at_ hlt;have HR:=zC (hr.out.trans (K.ajq hi (K.prev v k)));have bH:=zC (show K.prev v (k + 1)=i by simp [K.prev,hi]);clear hi hr;obtain ⟨k0,k1⟩:=zJ (a:=k) (b:=n) (by omega);cases c1:decide (i < 0);rotate_left
   ·have HX:=zC (show K.r_ v m=false by unfold K.r_;rw [HR.out];have:=iH c1;simp;omega);go_wp2_with fail;go_quiet (fail);go_wp2_with fail;go_ret;exact ⟨aK HX.out.symm,below_drewN hbr _⟩
   have hi0:¬ i < 0:=of_decide_eq_false c1;cases c2:decide (m<=i);rotate_left
   ·have HX:=zC (show K.r_ v m=false by unfold K.r_;rw [HR.out];have:=iH c2;simp;intros;omega);go_wp2_with fail;go_quiet (fail);go_wp2_with fail;go_ret;exact ⟨aK HX.out.symm,below_drewN hbr _⟩
   have hi1:¬ m<=i:=of_decide_eq_false c2;rcases Nat.eq_zero_or_pos k with hk0 | hk0
   ·have JI:=zC hk0;have k2:decide ((0:Int) < (k:Int))=false:=by simp;omega
    have IG:decide (0 < k)=false:=by simp;omega
    clear hk0;have HN:=zC (show K.o9 m (-1) v=K.o9 m (K.prev v (k + 1)) (v.drop (k + 1)) by
     rw [HR.out,bH.out,show K.prev v k=-1 by rw [JI.out];rfl];simp [show (0:Int)<=i by omega,show i < m by omega,show (-1:Int) < i by omega])
    go_wp2_with fail;go_quiet (fail);go_wp2_with fail;go_roundw
    case rel=>exact ⟨k + 1,by go_num,by omega,HN.out,below_drewN hbr _⟩
    case measure=>simp [intOf];omega
   ·obtain ⟨kp,hkp⟩:∃ kp:Nat,k=kp + 1:=⟨k - 1,by omega⟩;obtain ⟨XA,pv,ep,hp,cp⟩:=(hV.below hbr).at_ (k:=kp) (by omega);injection ep with ep;subst ep;have FO:=zC (show K.prev v k=pv by rw [hkp];simp [K.prev,hp]);have k2:decide ((0:Int) < (k:Int))=true:=by simp;omega
    have IG:decide (0 < k)=true:=by simp;omega
    have k3:IntKind.i64.wrap ((k:Int) - 1)=(kp:Int):=by rw [dh _ (by omega)];omega
    have k4:(kp:Int) < (n:Int):=by omega
    have k5:(0:Int)<=(kp:Int):=by omega
    have k6:decide ((kp:Int) < 0)=false:=by simp
    have Wv:=zC hkp;clear hp hkp;cases c4:decide (i<=pv)
    ·have HN:=zC (show K.o9 m (-1) v=K.o9 m (K.prev v (k + 1)) (v.drop (k + 1)) by
      have:=of_decide_eq_false c4;rw [HR.out,bH.out,FO.out];simp [show (0:Int)<=i by omega,show i < m by omega,show pv < i by omega])
     go_wp2_with fail;go_quiet (fail);go_wp2_with fail;go_roundw
     case rel=>exact ⟨k + 1,by go_num,by omega,HN.out,below_drewN hbr _⟩
     case measure=>simp [intOf];omega
    ·have HX:=zC (show K.r_ v m=false by unfold K.r_;rw [HR.out,FO.out];have:=iH c4;simp;intros;omega);go_wp2_with fail;go_quiet (fail);go_wp2_with fail;go_ret;exact ⟨aK HX.out.symm,below_drewN hbr _⟩
  ·have HN:=zC (show K.r_ v m=decide (v.length<=6) by unfold K.r_;rw [hr.out,dF (by rw [<-bM.out];omega)];rfl);go_wp2_with fail;go_ret;exact ⟨by rw [HN.out,<-bM.out];simp;omega,hbr⟩
theorem Oe (x:C) (V:aj) (vn vc:Nat) (v:ag) (w:World) (hx:At w x) (hV:Ints w V vn v) (hvn:vn<=1000000000) :
  ay 130 #[.agg #[.int .i64 x.nd,.slice x.A x.n x.c],fG x.s,.slice x.B x.m x.d,.slice V vn vc] w (bg w (K.bF x.nd x.l x.s x.r v)):=by
 have b0:=((dK w).alloc (zG _) (.cells #[.int .i64 x.nd,.slice x.A x.n x.c] 24)).alloc (by rw [aF];omega) (.cells #[.int .i64 x.s.day,.int .i64 x.s.ax,.int .i64 x.s.start,.int .i64 x.s.end_,.int .i64 x.s.aU,.slice x.s.A x.s.n x.s.c] 63);have SZ:=aF w (.cells #[.int .i64 x.nd,.slice x.A x.n x.c] 24);have hP:=(Net.new w x.nd x.A x.n x.c).below (ai.alloc (zG _) (.cells #[.int .i64 x.s.day,.int .i64 x.s.ax,.int .i64 x.s.start,.int .i64 x.s.end_,.int .i64 x.s.aU,.slice x.s.A x.s.n x.s.c] 63));have hS:=bI.new (w.alloc (.cells #[.int .i64 x.nd,.slice x.A x.n x.c] 24)) x.s;rw [SZ] at hS;have HO:=zC (K.NG x.nd x.l x.s x.r v);have HM:=zC hx.bf.1;go_enter Tryz.func130,Tryz.ntmps130;go_wp2_with fail;obtain ⟨w0,hw0⟩:=zB ((w.alloc (.cells #[.int .i64 x.nd,.slice x.A x.n x.c] 24)).alloc (.cells #[.int .i64 x.s.day,.int .i64 x.s.ax,.int .i64 x.s.start,.int .i64 x.s.end_,.int .i64 x.s.aU,.slice x.s.A x.s.n x.s.c] 63));rw [<-hw0] at b0 hP hS ⊢;clear hw0 SZ;refine (alD V vn vc v x.m _ (hV.below b0) hvn).mono ?_;rintro e w1 ⟨rfl,b1⟩;have hP:=hP.below b1;have hS:=hS.below b1;have hb:=bel b0 b1;clear b0 b1;cases h1:K.r_ v (x.m:Int)
 ·have HX:=zC (show K.bF x.nd x.l x.s x.r v=false by rw [HO.out,<-HM.out,h1];rfl);go_wp2_with fail;go_ret;exact ⟨aK HX.out.symm,hb⟩
 have HX:=zC (show K.bF x.nd x.l x.s x.r v=K.right x.nd x.l x.s x.r v by rw [HO.out,<-HM.out,h1];rfl);have p0:=hP.c0;have p1:=hP.c1;obtain ⟨s0,s1,s2,s3,s4,s5⟩:=hS.cells;go_wp2_with fail;refine (ado x V vn vc v _ (hx.below hb) (hV.below hb) hvn).mono ?_;rintro e w2 ⟨rfl,b2⟩;go_wp2_with fail;go_ret;exact ⟨by rw [HX.out];rfl,bel hb b2⟩
namespace K
structure St where
 bits:Nat
 a:Int
 t:Int
 stops:List Int
 times:List Int
def late (best:Option Tr) (t:Int):Bool:=match best with | none=>false | some b=>decide (b.end_<=t)
def better (best:Option Tr) (e:Int):Bool:=match best with | none=>true | some b=>decide (e < b.end_)
def home (nd:Int) (l:List Ro) (s:S) (r:List Q) (v:ag) (st:St) (best:Option Tr):Option Tr :=
 if way nd l st.a (T.weight s r (part v st.bits)) s.ax ≠ -1/\st.t + way nd l st.a (T.weight s r (part v st.bits)) s.ax<=s.end_/\better best (st.t + way nd l st.a (T.weight s r (part v st.bits)) s.ax)=true
 then some ⟨st.stops,st.times,st.t + way nd l st.a (T.weight s r (part v st.bits)) s.ax⟩ else best
def jW (nd:Int) (l:List Ro) (s:S) (r:List Q) (v:ag) (st:St) (i:Nat) (k:Int):Option St :=
 if st.bits.testBit i=true then none
 else if way nd l st.a (T.weight s r (part v st.bits)) (req r k).node=-1 then none
 else if (begins s r (req r k) (part v (st.bits + 2 ^ i)) (st.t + way nd l st.a (T.weight s r (part v st.bits)) (req r k).node)).2=false then none
 else some ⟨st.bits + 2 ^ i,(req r k).node,(begins s r (req r k) (part v (st.bits + 2 ^ i)) (st.t + way nd l st.a (T.weight s r (part v st.bits)) (req r k).node)).1 + (req r k).service,
  st.stops ++ [k],st.times ++ [(begins s r (req r k) (part v (st.bits + 2 ^ i)) (st.t + way nd l st.a (T.weight s r (part v st.bits)) (req r k).node)).1]⟩
def dU (nd:Int) (l:List Ro) (s:S) (r:List Q) (v:ag):Nat->St->Option Tr->Option Tr
 | 0,_,best=>best
 | f + 1,st,best =>
  if late best st.t=true then best
  else if st.bits=2 ^ v.length - 1 then home nd l s r v st best
  else go (dU nd l s r v f) nd l s r v st best 0 v
where
 go (rec:St->Option Tr->Option Tr) (nd:Int) (l:List Ro) (s:S) (r:List Q) (v:ag) (st:St) (best:Option Tr) (i:Nat):List Int->Option Tr
  | []=>best
  | k :: rest=>match jW nd l s r v st i k with
   | none=>go rec nd l s r v st best (i + 1) rest
   | some st'=>go rec nd l s r v st (rec st' best) (i + 1) rest
def best (nd:Int) (l:List Ro) (s:S) (r:List Q) (v:ag):Option Tr:=dU nd l s r v (2 ^ v.length) ⟨0,s.ax,s.start,[],[]⟩ none
end K
structure ig (w w':World) (mb gb gf:Nat):Prop where
 os:w'.os=w.os
 tape:w'.tape=w.tape
 output:w'.output=w.output
 size:w.heap.size<=w'.heap.size
 block:∀ k,k < w.heap.size->k ≠ mb->k ≠ gb->k ≠ gf->w'.heap[k]? = w.heap[k]?
theorem ig.of {w w':World} {mb gb gf:Nat} (h:w.grownBy w' (some mb)):ig w w' mb gb gf:=⟨h.os,h.tape,h.output,h.size,λk hk hne _ _=>h.block k hk (λe=>hne (by injection e))⟩
theorem ig.refl (w:World) (mb gb gf:Nat):ig w w mb gb gf:=⟨rfl,rfl,rfl,zG _,λ_ _ _ _ _=>rfl⟩
theorem ig.trans {w w1 w2:World} {mb gb gf:Nat} (h:ig w w1 mb gb gf) (h2:ig w1 w2 mb gb gf):ig w w2 mb gb gf :=
 ⟨h2.os.trans h.os,h2.tape.trans h.tape,h2.output.trans h.output,aN h.size h2.size,λk hk a b c=>(h2.block k (dO hk h.size) a b c).trans (h.block k hk a b c)⟩
theorem ig.below {w w1 w2:World} {mb gb gf:Nat} (h:ig w w1 mb gb gf) (h2:af w1 w2):ig w w2 mb gb gf :=
 h.trans ⟨h2.os,h2.tape,h2.output,h2.size,λk hk _ _ _=>h2.block k hk⟩
theorem ig.set {w w':World} {mb gb gf g:Nat} (h:ig w w' mb gb gf) (hg:g=gb\/g=gf) (i:Nat) (v:Value):ig w (w'.setCell ⟨g,i,none⟩ v) mb gb gf :=
 ⟨h.os,h.tape,h.output,by rw [World.size_setCell];exact h.size,λk hk a b c=>(iG w' _ _ k (by rcases hg with rfl | rfl <;> assumption)).trans (h.block k hk a b c)⟩
structure qQ (w:World) (gb gf:Nat) (best:Option K.Tr):Prop where
 found:w.heap[gf]? = some (.cells #[.bool best.isSome] 4 (0,0))
 blk:∃ A n c A' n' c' e,jr w gb 0 (.slice A n c) (.slice A' n' c') e/\∀ b,best=some b->Ints w A n b.stops/\Ints w A' n' b.times/\e=b.end_/\(∀ ad,A=some ad->gb < ad.block/\gf < ad.block)/\(∀ ad,A'=some ad->gb < ad.block/\gf < ad.block)/\n<=c/\n'<=c'
theorem qQ.ext {w w':World} {gb gf:Nat} {best:Option K.Tr} (h:qQ w gb gf best) (hx:Ext w w'):qQ w' gb gf best:=by
 obtain ⟨A,n,c,A',n',c',e,hT,hb⟩:=h.blk;exact ⟨hx.cells _ _ _ _ h.found,A,n,c,A',n',c',e,hx.cells _ _ _ _ hT,λb e=>by
  obtain ⟨h1,h2,h3⟩:=hb b e;exact ⟨h1.ext hx,h2.ext hx,h3⟩⟩
theorem qQ.ne {w:World} {gb gf:Nat} {best:Option K.Tr} (h:qQ w gb gf best):gb ≠ gf:=λe=>by
 obtain ⟨A,n,c,A',n',c',e',hT,-⟩:=h.blk;have h1:=h.found;rw [<-e] at h1;have h2:=hT.symm.trans h1;injection h2 with h2;injection h2 with h2;simp at h2
def Gj (w w':World) (mb gb gf:Nat) (p:PS) (X:Nat->Prop) (best:Option K.Tr) (e:Ending):Prop :=
 e=.returned (.tuple #[])/\ig w w' mb gb gf/\fZ w' mb p.x.nd p.x.l X/\qQ w' gb gf best
structure mW (wp w:World) (mb gb gf:Nat) (p:PS) (X:Nat->Prop) (best:Option K.Tr):Prop where
 ext:Ext wp w
 memo:fZ w mb p.x.nd p.x.l X
 best:qQ w gb gf best
theorem mW.pat {wp w:World} {b mb gb gf:Nat} {p:PS} {X:Nat->Prop} {best:Option K.Tr} (h:mW wp w mb gb gf p X best) (hp:dZ wp b mb p X):dZ w b mb p X:=hp.keep h.ext h.memo
theorem mW.below {wp w w':World} {mb gb gf:Nat} {p:PS} {X:Nat->Prop} {best:Option K.Tr} (h:mW wp w mb gb gf p X best) (hb:af w w'):mW wp w' mb gb gf p X best :=
 ⟨h.ext.trans (Ext.below hb),h.memo.below hb,h.best.ext (Ext.below hb)⟩
theorem mW.went {wp w w':World} {b mb gb gf:Nat} {p:PS} {X:Nat->Prop} {best:Option K.Tr} (h:mW wp w mb gb gf p X best) (hp:dZ wp b mb p X) (hW:lJ w w' b mb p X):mW wp w' mb gb gf p X best :=
 have hx:=hW.ext (h.pat hp)
 ⟨h.ext.trans hx,hW.2.memo,h.best.ext hx⟩
theorem mW.but {wp w w':World} {b mb gb gf:Nat} {p:PS} {X:Nat->Prop} {best best':Option K.Tr} (h:mW wp w mb gb gf p X best) (hp:dZ wp b mb p X) (hgb:wp.heap.size<=gb) (hgf:wp.heap.size<=gf)
  (hB:ig w w' mb gb gf) (hM:fZ w' mb p.x.nd p.x.l X) (hT:qQ w' gb gf best'):mW wp w' mb gb gf p X best' :=
 ⟨⟨aN h.ext.size hB.size,λg cs t z e=>by
  have h1:=h.ext.cells g cs t z e;have h2:=(l_.1 e).1;refine (hB.block g (l_.1 h1).1 (λe2=>?_) (by omega) (by omega)).trans h1;obtain ⟨es,clock,hm,-⟩:=hp.memo;rw [e2,hm] at e;cases e⟩,hM,hT⟩
structure wO (w:World) (p:PS) (gb gf:Nat) (st:K.St) (SA:aj) (sn:Nat) (TA:aj) (tn:Nat):Prop where
 stops:Ints w SA sn st.stops
 times:Ints w TA tn st.times
 s1:∀ ad,SA=some ad->ad.block ≠ gb/\ad.block ≠ gf
 t1:∀ ad,TA=some ad->ad.block ≠ gb/\ad.block ≠ gf
 bits:st.bits < 2 ^ p.n
 len:st.stops.length<=st.bits
 Nq:st.times.length=st.stops.length
 a0:0<=st.a/\st.a < p.x.nd
 t0:0<=st.t/\st.t<=1000000
theorem Ints.but {w w':World} {mb gb gf:Nat} {nd:Int} {lr:List Ro} {X:Nat->Prop} {A:aj} {n:Nat} {l:ag} (h:Ints w A n l) (hM:fZ w mb nd lr X) (hB:ig w w' mb gb gf) (hA:∀ ad,A=some ad->ad.block ≠ gb/\ad.block ≠ gf):Ints w' A n l :=
 ⟨h.1,h.2.1,λhn=>by
  obtain ⟨ad,e,hc⟩:=h.2.2 hn;refine ⟨ad,e,λj u hu=>?_⟩;have h1:=hc j u hu;have h2:=cell_lt h1;rw [add_block] at h2;refine (lg (by
   rw [add_block];refine hB.block _ h2 (λe2=>?_) (hA ad e).1 (hA ad e).2;obtain ⟨es,clock,hm,-⟩:=hM;rw [<-e2] at hm;simp only [World.cell?,add_block,hm] at h1;cases h1)).trans h1⟩
theorem wO.but {w w':World} {p:PS} {mb gb gf:Nat} {nd:Int} {lr:List Ro} {X:Nat->Prop} {st:K.St} {SA TA:aj} {sn tn:Nat} (h:wO w p gb gf st SA sn TA tn) (hM:fZ w mb nd lr X) (hB:ig w w' mb gb gf):wO w' p gb gf st SA sn TA tn :=
 ⟨h.stops.but hM hB h.s1,h.times.but hM hB h.t1,h.s1,h.t1,h.bits,h.len,h.Nq,h.a0,h.t0⟩
theorem wO.ext {w w':World} {p:PS} {gb gf:Nat} {st:K.St} {SA TA:aj} {sn tn:Nat} (h:wO w p gb gf st SA sn TA tn) (hB:Ext w w'):wO w' p gb gf st SA sn TA tn :=
 ⟨h.stops.ext hB,h.times.ext hB,h.s1,h.t1,h.bits,h.len,h.Nq,h.a0,h.t0⟩
def oM (w:World) (H:Nat) (st:K.St) (SA:aj) (sn sc:Nat) (TA:aj) (tn tc:Nat):Prop :=
 w.heap[H]? = some (.cells #[.int .i64 (st.bits:Int),.int .i64 st.a,.int .i64 st.t,.slice SA sn sc,.slice TA tn tc] 208 (0,0))
theorem oM.cells {w:World} {H:Nat} {st:K.St} {SA TA:aj} {sn sc tn tc:Nat} (h:oM w H st SA sn sc TA tn tc) :
  w.cell? ⟨H,0,none⟩=some (.int .i64 (st.bits:Int))/\w.cell? ⟨H,1,none⟩=some (.int .i64 st.a)/\w.cell? ⟨H,2,none⟩=some (.int .i64 st.t)/\w.cell? ⟨H,3,none⟩=some (.slice SA sn sc)/\w.cell? ⟨H,4,none⟩=some (.slice TA tn tc) :=
 ⟨ah h 0 _ rfl,ah h 1 _ rfl,ah h 2 _ rfl,ah h 3 _ rfl,ah h 4 _ rfl⟩
theorem Gu {w:World} {g:Nat} {o:Obj} (h:w.heap[g]? = some o) {g' i:Nat} (v:Value) (hne:g ≠ g'):(w.setCell ⟨g',i,none⟩ v).heap[g]? = some o :=
 (iG w _ v g hne).trans h
theorem ab6 {w:World} {base:Nat} {e:TypeId} {size n n' c:Nat} {A:aj} {xs:List Value} (h:w.ownsRow base e size (.slice A n' c) n xs):n<=c:=by
 obtain ⟨-,⟨e,e0⟩ | ⟨g',cap,cur,e,-,-,h9,-⟩⟩:=h
 ·rw [e0];exact aW _
 ·injection e with e1 e2 e3;rw [e3];exact h9
theorem mW.stored {wp w:World} {b mb gb gf:Nat} {p:PS} {X:Nat->Prop} {best:Option K.Tr} (h:mW wp w mb gb gf p X best) (hp:dZ wp b mb p X) (hgb:wp.heap.size<=gb) (hgf:wp.heap.size<=gf) (vz:X gb) (BX:X gf)
  (S T:ag) (en:Int) {A A':aj} {n c n' c':Nat} (hA:Ints w A n S) (hA':Ints w A' n' T) (h1:∀ ad,A=some ad->gb < ad.block/\gf < ad.block) (h2:∀ ad,A'=some ad->gb < ad.block/\gf < ad.block) (hc:n<=c) (hc':n'<=c') :
  ig w (((((w.setCell ⟨gb,0,none⟩ (.int .i64 0)).setCell ⟨gb,1,none⟩ (.slice A n c)).setCell ⟨gb,2,none⟩ (.slice A' n' c')).setCell ⟨gb,3,none⟩ (.int .i64 en)).setCell ⟨gf,0,none⟩ (.bool true)) mb gb gf /\
  fZ (((((w.setCell ⟨gb,0,none⟩ (.int .i64 0)).setCell ⟨gb,1,none⟩ (.slice A n c)).setCell ⟨gb,2,none⟩ (.slice A' n' c')).setCell ⟨gb,3,none⟩ (.int .i64 en)).setCell ⟨gf,0,none⟩ (.bool true)) mb p.x.nd p.x.l X /\
  qQ (((((w.setCell ⟨gb,0,none⟩ (.int .i64 0)).setCell ⟨gb,1,none⟩ (.slice A n c)).setCell ⟨gb,2,none⟩ (.slice A' n' c')).setCell ⟨gb,3,none⟩ (.int .i64 en)).setCell ⟨gf,0,none⟩ (.bool true)) gb gf (some ⟨S,T,en⟩):=by
 have hmb:=hp.memo.lt;obtain ⟨A0,n0,c0,A1,n1,c1,e0,hT,-⟩:=h.best.blk;have hne:=h.best.ne;refine ⟨((((((ig.refl w mb gb gf).set (.inl rfl) _ _).set (.inl rfl) _ _).set (.inl rfl) _ _).set (.inl rfl) _ _).set (.inr rfl) _ _),
  (((((h.memo.set vz (by omega) _ _).set vz (by omega) _ _).set vz (by omega) _ _).set vz (by omega) _ _).set BX (by omega) _ _),?_,A,n,c,A',n',c',en,?_,?_⟩
 ·have hf:(((w.setCell ⟨gb,0,none⟩ (.int .i64 0)).setCell ⟨gb,1,none⟩ (.slice A n c)).setCell ⟨gb,2,none⟩ (.slice A' n' c')).setCell ⟨gb,3,none⟩ (.int .i64 en) |>.heap[gf]? = some (.cells #[.bool best.isSome] 4 (0,0)) :=
   Gu (Gu (Gu (Gu h.best.found _ (Ne.symm hne)) _ (Ne.symm hne)) _ (Ne.symm hne)) _ (Ne.symm hne)
  exact di hf 0 _
 ·exact Gu (di (di (di (di hT 0 _) 1 _) 2 _) 3 _) _ hne
 ·rintro b ⟨⟩;exact ⟨((((hA.set _ λad e=>Nat.ne_of_gt (h1 ad e).1).set _ λad e=>Nat.ne_of_gt (h1 ad e).1).set _ λad e=>Nat.ne_of_gt (h1 ad e).1).set _ λad e=>Nat.ne_of_gt (h1 ad e).1).set _ λad e=>Nat.ne_of_gt (h1 ad e).2,
   ((((hA'.set _ λad e=>Nat.ne_of_gt (h2 ad e).1).set _ λad e=>Nat.ne_of_gt (h2 ad e).1).set _ λad e=>Nat.ne_of_gt (h2 ad e).1).set _ λad e=>Nat.ne_of_gt (h2 ad e).1).set _ λad e=>Nat.ne_of_gt (h2 ad e).2,rfl,h1,h2,hc,hc'⟩
theorem alU {ops:Array Oper} {o:Oper} {a:Act} {w:World} {K:Act->World->Prop} {Q:Exit->Act->World->Prop} {E:Prop} (hgd:o.guard=none) (s x:Operand)
  (ho:o.op=.call { callee:=.builtin .append,args:=#[s,x],argTypes:=#[48,48] })
  (base:Nat) (v:Value) (n:Nat) (l:ag) (hs:a.eval s=v) (hown:w.ownsRow base 3 1 v n (intCells l)) (g:Nat) (p:Int) (hx:a.eval x=.slice (some ⟨g,0,none⟩) 1 1)
  (hg:w.heap[g]? = some (.cells #[.int .i64 p] 3 (0,0))) (hn:n<=1000000) (hbase:base<=w.heap.size)
  (h:∀ A c w',Ints w' A (n + 1) (l ++ [p])->(∀ ad,A=some ad->base<=ad.block)->w.grownBy w' v.ownBlock->Below base w w'->K (a.put o.dst (.slice A (n + 1) c)) w') :
  if Region.wanted o (yielded ops a.tmps)=true then Oper.wp Tryz.prog o a w K Q else E:=by
 obtain ⟨i0,hi,hz0,hz1,hz2⟩:=info_parts Tryz.info3;have hl:n=l.length:=by
  have:=hown.1;simpa [intCells] using this.symm
 refine x_ hgd s x 48 ho base 3 i0 (.int .i64 0) 1 8 Tryz.underlying48 hi hz0 hz1 hz2 rfl (by decide) v n (intCells l) hs hown (some ⟨g,0,none⟩) 1 1 [.int .i64 p] hx ⟨rfl,λ_=>⟨_,rfl,λj u hu=>by rw [lN];exact ah hg j u (by simpa using hu)⟩⟩ (λu hu=>by simp at hu;subst hu;rfl) (by simp only [maxLen];omega) (by omega) hbase ?_;intro v' w' h2 h3 h4;obtain ⟨A,c,rfl,hR,hlt⟩:=fP h2;refine h A c w' ⟨by rw [cZ,<-hl];rfl,by rw [EL];exact hR⟩ (λad e=>?_) h3 ((Below.refl base w).grown h3 hbase (λk e=>(hown.lt k e).1));subst e;obtain ⟨ad0,e0,hc⟩:=hR.2 (by omega);injection e0 with e0;subst e0;rcases h2.2 with ⟨e,-⟩ | ⟨g',cap,cur,e,hb,-⟩
 ·cases e
 ·injection e with e;injection e with e;subst e;exact hb
theorem ownsRow_below {w w':World} {base:Nat} {e:TypeId} {size n:Nat} {v:Value} {xs:List Value} (h:w.ownsRow base e size v n xs) (hb:af w w'):w'.ownsRow base e size v n xs:=by
 obtain ⟨hl,h1 | ⟨g,cap,cur,h1,h2,h3,h4⟩⟩:=h
 ·exact ⟨hl,.inl h1⟩
 ·exact ⟨hl,.inr ⟨g,cap,cur,h1,h2,au hb h3,h4⟩⟩
theorem Ov {ops:Array Oper} {o:Oper} {a:Act} {w w2:World} {K:Act->World->Prop} {Q:Exit->Act->World->Prop} {E:Prop} (hgd:o.guard=none) (s x:Operand)
  (ho:o.op=.call { callee:=.builtin .append,args:=#[s,x],argTypes:=#[48,48] })
  {base:Nat} {v:Value} {n:Nat} {l:ag} (hown:w2.ownsRow base 3 1 v n (intCells l)) (hbase:base<=w2.heap.size) (hs:a.eval s=v) (g:Nat) (p:Int) (hx:a.eval x=.slice (some ⟨g,0,none⟩) 1 1)
  (hw:af w2 w) (hg:w.heap[g]? = some (.cells #[.int .i64 p] 3 (0,0))) (hn:n<=1000000)
  (h:∀ A c w',Ints w' A (n + 1) (l ++ [p])->(∀ ad,A=some ad->base<=ad.block)->w.grownBy w' v.ownBlock->Below base w w'->K (a.put o.dst (.slice A (n + 1) c)) w') :
  if Region.wanted o (yielded ops a.tmps)=true then Oper.wp Tryz.prog o a w K Q else E :=
 alU hgd s x ho base v n l hs (ownsRow_below hown hw) g p hx hg hn (aN hbase hw.size) h
theorem aft:∀ n:Fin 7,∀ m:Fin 64,∀ k:Fin 6,m.val < 2 ^ n.val->k.val < n.val->m.val.testBit k.val=false->m.val + 2 ^ k.val < 2 ^ n.val:=by decide +kernel
theorem XZ {m i n:Nat} (hn:n<=6) (hm:m < 2 ^ n) (hi:i < n) (hb:m.testBit i=false):m + 2 ^ i < 2 ^ n :=
 aft ⟨n,by omega⟩ ⟨m,dO hm (Nat.pow_le_pow_right (by omega) hn)⟩ ⟨i,by omega⟩ hm hi hb
theorem XT {w W w':World} (hb:af w W) (_:af W w'):w.heap.size<=W.heap.size:=hb.size
theorem IV {W w':World} {g:Nat} {o:Obj} (_:af W w') (h:W.heap[g]? = some o):W.heap[g]? = some o:=h
theorem D5 {w:World} {g:Nat} {o:Obj} (h:w.heap[g]? = some o):w.drew.heap[g]? = some o:=h
theorem ints_at {W w':World} {A:aj} {n:Nat} {l:ag} (_:af W w') (h:Ints W A n l):∀ w'',af W w''->Ints w'' A n l:=λ_ hb=>h.below hb
namespace K
theorem QO {rec:St->Option Tr->Option Tr} {nd:Int} {l:List Ro} {s:S} {r:List Q} {v:ag} {st:St} {best:Option Tr} {k:Nat} {i:Int} (h:v[k]? = some i) (ho:jW nd l s r v st k i=none) :
  dU.go rec nd l s r v st best k (v.drop k)=dU.go rec nd l s r v st best (k + 1) (v.drop (k + 1)):=by
 rw [D7 h,dU.go,ho]
theorem agS {rec:St->Option Tr->Option Tr} {nd:Int} {l:List Ro} {s:S} {r:List Q} {v:ag} {st st':St} {best:Option Tr} {k:Nat} {i:Int} (h:v[k]? = some i) (ho:jW nd l s r v st k i=some st') :
  dU.go rec nd l s r v st best k (v.drop k)=dU.go rec nd l s r v st (rec st' best) (k + 1) (v.drop (k + 1)):=by
 rw [D7 h,dU.go,ho]
end K
end Go.Proofs.YtippdjmpkafifaaGreat
