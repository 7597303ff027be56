import Derived.Test.YtippdjmpkafifaaGreatCT6
import Derived.Test.YtippdjmpkafifaaGreatCT4
import Derived.Test.YtippdjmpkafifaaGreatCT5
set_option maxRecDepth 100000
set_option maxHeartbeats 64000000
namespace Go.Proofs.YtippdjmpkafifaaGreat
open Go.RowKit
namespace K
def opens (y:Int) (en:Int) (all:Nat) (x:Lb):Bool:=(x.set == (all:Int)) && ((x.time != -1) && ((y != -1) && decide (x.time + y<=en)))
end K
theorem Sj (b mb:Nat) (p:PS) (fr:Int) (tn m:Nat) (w:World) {X:Nat->Prop} (hp:bP w b mb p X) (hX:∀ g,X g->g < w.heap.size) (hm:m < 256) (hfr:0<=fr/\fr < p.x.nd) {d:Int} (hd:d=(tn:Int)) (hto:d < p.x.nd) (hwt:(Lit.int .i64 (T.weight p.x.s p.x.r (K.part p.l m))).wf=true) :
  Calls Tryz.prog 141 #[.pointer (some ⟨b,0,none⟩),.int .i64 fr,.int .i64 d,.int .i64 m] w λe w'=>Un w w' b mb p X (K.way p.x.nd p.x.l fr (T.weight p.x.s p.x.r (K.part p.l m)) d) e:=by
 subst hd;exact ab3 b mb p fr tn m w hp hX hm hfr hto hwt
theorem adg (b mb:Nat) (p:PS) (all:Nat) (x:Lb) (ga gp gs i j:Nat) (q:Q) (w:World) {X:Nat->Prop} (hp:bP w b mb p X) (hX:∀ g,X g->g < w.heap.size)
  (ha:w.heap[ga]? = some (.cells #[.int .i64 (all:Int)] 3 (0,0))) (hpp:w.heap[gp]? = some (.cells #[.pointer (some ⟨b,0,none⟩)] 162 (0,0))) (hs:aT w gs p.x.s)
  (hel:Elem p i j q) (hxl:x.last=(i:Int)) (hno:0<=q.node/\q.node < p.x.nd) (hall:all < 256) (ht:-1<=x.time/\x.time<=1000000) :
  Calls Tryz.prog 140 #[.agg #[.int .i64 x.set,.int .i64 x.last,.int .i64 x.time],.pointer (some ⟨ga,0,none⟩),.pointer (some ⟨gp,0,none⟩),.pointer (some ⟨gs,0,none⟩)] w
   λe w'=>e=.returned (.bool (K.opens (K.way p.x.nd p.x.l q.node (T.weight p.x.s p.x.r (K.part p.l all)) p.x.s.ag) p.x.s.end_ all x))/\jw w w' b mb p X:=by
 obtain ⟨hne,hck,hdp,-⟩:=K.fU hp.ok;obtain ⟨-,⟨d0,d1⟩,st0,st1,pX⟩:=K.pW hck;have bJ:=(K.fU hp.ok).2.2.2.2.1;have hwt:(Lit.int .i64 (T.weight p.x.s p.x.r (K.part p.l all))).wf=true:=T.Su (by have:=K.nN p.l all;omega);obtain ⟨dn,hdn⟩:∃ dn:Nat,p.x.s.ag=(dn:Int):=⟨p.x.s.ag.toNat,by omega⟩;obtain ⟨w1,hw1⟩:=zB (w.alloc (.cells #[.int .i64 x.set,.int .i64 (i:Int),.int .i64 x.time] 167));have b1:=zA hw1;have hB:w1.heap[w.heap.size]? = some (.cells #[.int .i64 x.set,.int .i64 (i:Int),.int .i64 x.time] 167 (0,0)):=by rw [hw1];exact heap_alloc_new _ _
 have hp1:=hp.below b1;have hS:∀ w',Ext w1 w'->w'.cell? ⟨gp,0,none⟩=some (.pointer (some ⟨b,0,none⟩))/\w'.cell? ⟨ga,0,none⟩=some (.int .i64 (all:Int))/\w'.cell? ⟨gs,1,none⟩=some (.int .i64 p.x.s.ag)/\w'.cell? ⟨gs,3,none⟩=some (.int .i64 p.x.s.end_)/\w'.cell? ⟨w.heap.size,0,none⟩=some (.int .i64 x.set)/\w'.cell? ⟨w.heap.size,1,none⟩=some (.int .i64 (i:Int))/\w'.cell? ⟨w.heap.size,2,none⟩=some (.int .i64 x.time):=λw' h=>by
  have h2:=(Ext.below b1).trans h;obtain ⟨s0,s1,s2,s3,s4,s5⟩:=hs.cells;exact ⟨h2.cell (af hpp 0 _ rfl),h2.cell (af ha 0 _ rfl),h2.cell s1,h2.cell s3,h.cell (af hB 0 _ rfl),h.cell (af hB 1 _ rfl),h.cell (af hB 2 _ rfl)⟩
 have S0:=hS w1 (Ext.refl _);have aW:=hS w1.drew (Ext.below (Below.refl w1.heap.size w1).drew);have CN:=Fg b mb p i j q w1.drew (hp1.below (Below.refl _ _).drew) hel;obtain ⟨c0,c1,c2,c3,c4,c5,c6⟩:=S0;rw [hw1] at c0 c1 c2 c3 c4 c5 c6;obtain ⟨y,hy⟩:=zB (K.way p.x.nd p.x.l q.node (T.weight p.x.s p.x.r (K.part p.l all)) p.x.s.ag);have hyb:=K.iJ p.x.nd p.x.l q.node (T.weight p.x.s p.x.r (K.part p.l all)) p.x.s.ag;rw [<-hy] at hyb ⊢;have HY:=zC hy;have zW:=zC hdn;have hW1:=KU hp b1;rw [hxl];clear hy hne hck hdn;go_enter Tryz.func140,Tryz.ntmps140;cases e1:(x.set == (all:Int))
 ·have q1:(x.set != (all:Int))=true:=by simp [bne,e1]
  have HX:=zC (show K.opens y p.x.s.end_ all x=false by simp [K.opens,e1]);clear e1;go_wp2_with fail;go_ret;exact ⟨ay HX.out.symm,by rw [<-hw1];exact hW1⟩
 have q1:(x.set != (all:Int))=false:=by simp [bne,e1]
 cases e2:(x.time == -1);rotate_left
 ·have HX:=zC (show K.opens y p.x.s.end_ all x=false by simp [K.opens,bne,e2]);go_wp2_with fail;go_ret;exact ⟨ay HX.out.symm,by rw [<-hw1];exact hW1⟩
 have HX:=zC (show K.opens y p.x.s.end_ all x=((y != -1) && decide (x.time + y<=p.x.s.end_)) by simp [K.opens,bne,e1,e2]);go_wp2_with fail;rw [<-hw1];clear c0 c1 c2 c3 c4 c5 c6 hw1 e1 e2 q1;have S0:=hS w1 (Ext.refl _)
 go_region_held3 (λw'=>w'.cell? ⟨gp,0,none⟩=some (.pointer (some ⟨b,0,none⟩))/\w'.cell? ⟨ga,0,none⟩=some (.int .i64 (all:Int))/\w'.cell? ⟨gs,1,none⟩=some (.int .i64 p.x.s.ag)/\w'.cell? ⟨gs,3,none⟩=some (.int .i64 p.x.s.end_)/\w'.cell? ⟨w.heap.size,0,none⟩=some (.int .i64 x.set)/\w'.cell? ⟨w.heap.size,1,none⟩=some (.int .i64 (i:Int))/\w'.cell? ⟨w.heap.size,2,none⟩=some (.int .i64 x.time))
  (first | assumption | exact S0 | exact aW)
  (first
   | (go_at_call 142;refine CN.mono ?_;rintro e w2 ⟨rfl,b2⟩;have hd2:Below w1.heap.size w1 w2:=bel (w1:=w1.drew) (Below.refl _ _).drew b2;have hp2:=hp1.below hd2;have S1:=hS w2 (Ext.below hd2))
   | (go_at_call 141;refine (Sj b mb p q.node dn all w2 hp2 (λg hg=>Nat.lt_of_lt_of_le (hX g hg) (bel b1 hd2).size) hall hno zW.out hdp hwt).mono ?_;rintro e w3 ⟨rfl,hW⟩;have hx3:=(Ext.below hd2).trans (hW.ext hp2);have S2:=hS w3 hx3)
   | fail)
 rw [<-HY.out];have hW3:=(hW1.below hd2).trans hW;obtain ⟨c0,c1,c2,c3,c4,c5,c6⟩:=S2;have hwrap:IntKind.i64.wrap (x.time + y)=x.time + y:=IntWalk.i64_in _ (by omega);clear S0 aW S1 hS CN;cases e3:(y == -1)
 ·have q3:(y != -1)=true:=by simp [bne,e3]
  rw [q3] at HX;go_wp2_with fail;go_ret;exact ⟨ay (by rw [HX.out];rfl),hW3⟩
 ·have q3:(y != -1)=false:=by simp [bne,e3]
  rw [q3] at HX;go_wp2_with fail;go_ret;exact ⟨ay (by rw [HX.out];rfl),hW3⟩
namespace K
def opensAt (nd:Int) (l:List Ro) (s:S) (r:List Q) (v:List Int) (all:Nat) (x:Lb):Bool :=
 opens (way nd l (req r ((v[x.last.toNat]?).getD 0)).node (T.weight s r (part v all)) s.ag) s.end_ all x
end K
def GL (p:PS) (x:Lb):Prop:=∃ i j q,Elem p i j q/\x.last=(i:Int)/\(0<=q.node/\q.node < p.x.nd)/\(-1<=x.time/\x.time<=1000000)
theorem af0 (b mb:Nat) (p:PS) (all ga gp gs:Nat) (A:Option Addr) (n c:Nat) (l:List Lb) (w:World) {X:Nat->Prop} (hp:bP w b mb p X) (hX:∀ g,X g->g < w.heap.size)
  (ha:w.heap[ga]? = some (.cells #[.int .i64 (all:Int)] 3 (0,0))) (hpp:w.heap[gp]? = some (.cells #[.pointer (some ⟨b,0,none⟩)] 162 (0,0))) (hs:aT w gs p.x.s) (hall:all < 256)
  (hl:dX w A n l) (hn:n<=1000000000) (hok:∀ x ∈ l,GL p x) :
  Calls Tryz.prog 189 #[.slice A n c,.func (.func 140) #[] #[.pointer (some ⟨ga,0,none⟩),.pointer (some ⟨gp,0,none⟩),.pointer (some ⟨gs,0,none⟩)]] w
   λe w'=>(∃ i:Int,e=.returned (.int .i64 i)/\(decide (0<=i))=l.any (K.opensAt p.x.nd p.x.l p.x.s p.x.r p.l all))/\jw w w' b mb p X:=by
 go_enter Tryz.func189,Tryz.ntmps189;go_wp2_with fail;go_loopw [8] (λvi wr=>∃ k:Nat,vi=.int .i64 k/\k<=n/\Hid (l.any (K.opensAt p.x.nd p.x.l p.x.s p.x.r p.l all)=(l.drop k).any (K.opensAt p.x.nd p.x.l p.x.s p.x.r p.l all))/\jw w wr b mb p X) (λvi _=>n - (intOf vi).toNat)
 case atStart=>exact ⟨0,rfl,by omega,by show _=_;rw [List.drop_zero],KU hp (Below.refl _ _)⟩
 case round =>
  obtain ⟨k,rfl,hk,hr,hW⟩:=hrel;have hx:=hW.ext hp;by_cases hlt:k < n
  ·obtain ⟨ad,x,rfl,hg,c0,c1,c2⟩:=dX.at_ (aQ.ext hl hx) hlt;obtain ⟨i,j,q,hel,hxl,hno,htb⟩:=hok x (zD hg);have HS:=zC (lJ (p:=K.opensAt p.x.nd p.x.l p.x.s p.x.r p.l all) hg);have HV:=zC (show K.opensAt p.x.nd p.x.l p.x.s p.x.r p.l all x=K.opens (K.way p.x.nd p.x.l q.node (T.weight p.x.s p.x.r (K.part p.l all)) p.x.s.ag) p.x.s.end_ all x by
    unfold K.opensAt;rw [hxl,Int.toNat_natCast,hel.set,Option.getD_some,K.jH hel.req])
   have CB:=adg b mb p all x ga gp gs i j q wr hW.2 (λg hg=>Nat.lt_of_lt_of_le (hX g hg) hx.size) (hx.cells _ _ _ _ ha) (hx.cells _ _ _ _ hpp) (hx.cells _ _ _ _ hs) hel hxl hno hall htb;rw [<-HV.out] at CB;obtain ⟨r9,b_⟩:=zB (K.opensAt p.x.nd p.x.l p.x.s p.x.r p.l all x);rw [<-b_] at CB;have fZ:=zC b_;clear hg b_ hxl;go_wp2_with fail;refine CB.mono ?_;rintro e w1 ⟨rfl,hW1⟩;have hW2:=hW.trans hW1;clear CB;cases r9
   ·go_wp2_with fail;go_roundw
    case rel=>exact ⟨k + 1,by go_num,by omega,by show _=_;rw [hr.out,HS.out,<-fZ.out];rfl,hW2⟩
    case measure=>simp [intOf];omega
   ·go_wp2_with fail;go_ret;exact ⟨⟨k,rfl,by rw [hr.out,HS.out,<-fZ.out];simp⟩,hW2⟩
  ·have hd:l.drop k=[]:=List.drop_eq_nil_of_le (by rw [<-hl.1];omega);have HD:=zC hd;clear hd;go_wp2_with fail;go_ret;exact ⟨⟨-1,rfl,by rw [hr.out,HD.out];rfl⟩,hW⟩
theorem adY (b mb:Nat) (p:PS) (all ga gp gs:Nat) (A:Option Addr) (n c:Nat) (l:List Lb) (w:World) {X:Nat->Prop} (hp:bP w b mb p X) (hX:∀ g,X g->g < w.heap.size)
  (ha:w.heap[ga]? = some (.cells #[.int .i64 (all:Int)] 3 (0,0))) (hpp:w.heap[gp]? = some (.cells #[.pointer (some ⟨b,0,none⟩)] 162 (0,0))) (hs:aT w gs p.x.s) (hall:all < 256)
  (hl:dX w A n l) (hn:n<=1000000000) (hok:∀ x ∈ l,GL p x) :
  Calls Tryz.prog 139 #[.slice A n c,.func (.func 140) #[] #[.pointer (some ⟨ga,0,none⟩),.pointer (some ⟨gp,0,none⟩),.pointer (some ⟨gs,0,none⟩)]] w
   λe w'=>e=.returned (.bool (l.any (K.opensAt p.x.nd p.x.l p.x.s p.x.r p.l all)))/\jw w w' b mb p X:=by
 have CI:=af0 b mb p all ga gp gs A n c l w hp hX ha hpp hs hall hl hn hok;clear ha hpp hs;go_enter Tryz.func139,Tryz.ntmps139;go_wp2_with fail;refine CI.mono ?_;rintro e w1 ⟨⟨i,rfl,hi⟩,hb1⟩;go_wp2_with fail;go_ret;exact ⟨rfl,hb1⟩
namespace K
def blocks (nd:Int) (l:List Ro) (s:S) (r:List Q) (v:List Int) (b:List Lb):Bool :=
 aP nd l s r v && (!(v.length == 0) && (decide (b=aS nd l s r v) && !(b.any (opensAt nd l s r v (2 ^ v.length - 1)))))
end K
namespace K
theorem QK {m:Nat} {row:List Int} {x:Lb}:∀ {i:Nat},x ∈ dP m row i->∃ k,k < i/\m.testBit k=true/\x=⟨m,k,(row[k]?).getD (-1)⟩
 | 0,h=>by simp [dP] at h
 | i + 1,h=>by
  rw [dP] at h;rcases List.mem_append.1 h with h | h
  ·obtain ⟨k,hk,h2⟩:=QK h;exact ⟨k,by omega,h2⟩
  ·by_cases hb:m.testBit i=true
   ·rw [if_pos hb] at h;exact ⟨i,by omega,hb,List.mem_singleton.1 h⟩
   ·rw [if_neg hb] at h;cases h
theorem QM {n:Nat} {t:List (List Int)} {x:Lb}:∀ {M:Nat},x ∈ iI n t M->∃ m,m < M/\x ∈ dP m ((t[m]?).getD []) n
 | 0,h=>by simp [iI] at h
 | M + 1,h=>by
  rw [iI] at h;rcases List.mem_append.1 h with h | h
  ·obtain ⟨m,hm,h2⟩:=QM h;exact ⟨m,by omega,h2⟩
  ·exact ⟨M,by omega,h⟩
end K
theorem bP.aS {w:World} {b mb:Nat} {p:PS} {X:Nat->Prop} (h:bP w b mb p X):∀ x ∈ K.aS p.x.nd p.x.l p.x.s p.x.r p.l,GL p x:=by
 intro x hx;unfold K.aS at hx;rw [if_pos h.ok] at hx;obtain ⟨m,hm,hx⟩:=K.QM hx;obtain ⟨k,hk,-,rfl⟩:=K.QK hx;obtain ⟨j,q,hel,hno,hse,-⟩:=h.elem (k:=k) (by rw [h.set.1];exact hk);refine ⟨k,j,q,hel,rfl,hno,?_⟩;rw [K.vw hm,Option.getD_some];have Jr:∀ i ∈ p.l,0<=(K.req p.x.r i).service:=λi hi=>by
  obtain ⟨k2,hk2⟩:=List.mem_iff_getElem?.1 hi;obtain ⟨j2,q2,XP,-,afC,-⟩:=h.elem (k:=k2) (by rw [h.set.1];exact (zE.1 hk2).1);have h1:=XP.set;rw [hk2] at h1;injection h1 with h1;rw [h1,K.jH XP.req];exact afC.1
 have hb:=K.Ku (nd:=p.x.nd) (l:=p.x.l) (s:=p.x.s) (r:=p.x.r) (v:=p.l) (t:=K.table p.x.nd p.x.l p.x.s p.x.r p.l m) (m:=m) Jr;have hkl:k < (K.rowOf p.x.nd p.x.l p.x.s p.x.r p.l (K.table p.x.nd p.x.l p.x.s p.x.r p.l m) m).length:=by rw [K.uX];exact hk
 rw [zF hkl,Option.getD_some];exact hb _ (List.getElem_mem hkl)
theorem K.Qz (nd:Int) (l:List Ro) (s:S) (r:List Q) (v:List Int):(K.aS nd l s r v).length<=1000:=by
 unfold K.aS;split
 ·rename_i h
  have hl:=(K.fU h).2.2.2.2.1;have h1:=K.KG v.length (K.table nd l s r v (2 ^ v.length)) (2 ^ v.length);have h2:2 ^ v.length<=64:=Nat.pow_le_pow_right (n:=2) (by omega) hl;have h3:2 ^ v.length * v.length<=64 * 6:=Nat.mul_le_mul h2 hl;omega
 ·simp
theorem adz (x:C) (sh:Int) (V:Option Addr) (vn vc:Nat) (v:List Int) (LA:Option Addr) (ln lc:Nat) (l:List Lb) (w:World) (hx:At w x) (hV:Ints w V vn v) (lg:vn<=vc) (hvn:vn<=1000000000) (hL:dX w LA ln l) (hln:ln<=1000000000) :
  Calls Tryz.prog 88 #[.agg #[.int .i64 x.nd,.slice x.A x.n x.c],.agg #[.int .i64 x.s.day,.int .i64 x.s.ag,.int .i64 x.s.start,.int .i64 x.s.end_,.int .i64 x.s.aj,.slice x.s.A x.s.n x.s.c],.slice x.B x.m x.d,.agg #[.int .i64 sh,.slice V vn vc,.slice LA ln lc]] w λe w'=>e=.returned (.bool (K.blocks x.nd x.l x.s x.r v l))/\Below w.heap.size w w':=by
 obtain ⟨w1,hw1⟩:=zB (w.alloc (.cells #[.int .i64 x.nd,.slice x.A x.n x.c] 24));obtain ⟨w2,hw2⟩:=zB (w1.alloc (.cells #[.int .i64 x.s.day,.int .i64 x.s.ag,.int .i64 x.s.start,.int .i64 x.s.end_,.int .i64 x.s.aj,.slice x.s.A x.s.n x.s.c] 63));obtain ⟨w3,hw3⟩:=zB (w2.alloc (.cells #[.int .i64 sh,.slice V vn vc,.slice LA ln lc] 90));have z1:w1.heap.size=w.heap.size + 1:=by rw [hw1];exact World.size_alloc _ _
 have z2:w2.heap.size=w.heap.size + 1 + 1:=by rw [hw2,World.size_alloc,z1]
 have b01:=zA hw1;have b12:=zA hw2;have bH:=zA hw3;have hP:Net w3 w.heap.size x.nd x.A x.n x.c:=by
  have h1:Net w1 w.heap.size x.nd x.A x.n x.c:=by rw [hw1];exact Net.new _ _ _ _ _
  exact (h1.below b12).below bH
 have hS:aT w3 (w.heap.size + 1) x.s:=by
  have h1:aT w2 (w.heap.size + 1) x.s:=by rw [<-z1,hw2];exact aT.new _ _
  exact h1.below bH
 have hB:w3.heap[w.heap.size + 1 + 1]? = some (.cells #[.int .i64 sh,.slice V vn vc,.slice LA ln lc] 90 (0,0)):=by rw [<-z2,hw3];exact heap_alloc_new _ _
 have b3:=bel (bel b01 b12) bH;go_enter Tryz.func88,Tryz.ntmps88;go_wp2_with fail;rw [<-hw1,<-hw2,<-hw3];clear hw1 hw2 hw3 z1 z2 b01 b12 bH;refine (Q_ x V vn vc v _ (hx.below b3) (hV.below b3) lg hvn).mono ?_;rintro e w4 ⟨hret,eF⟩;have hP:=hP.below eF;have hS:=hS.below eF;have hB:=az eF hB;have hb:=bel b3 eF;have hsz:=b3.size;clear b3 eF;rcases hret with ⟨hok,rfl⟩ | ⟨b,mb,rfl,hbb,hbm,hPl⟩
 ·have HX:=zC (show K.blocks x.nd x.l x.s x.r v l=false by simp [K.blocks,hok]);clear hok;go_wp2_with fail;go_quiet (fail);go_wp2_with fail;go_ret;exact ⟨ay HX.out.symm,below_drewN (bel hb ((Below.refl _ _).alloc (zG _) _)) _⟩
 have hp:=hPl (λ_=>False);clear hPl;have aJ:=zC (show K.aP x.nd x.l x.s x.r v=true from hp.ok);have aK:=zC hV.1;have hv6:vn<=6:=by have:=(K.fU hp.ok).2.2.2.2.1;have:=hV.1;dsimp only at *;omega
 obtain ⟨w5,hw5⟩:=zB (w4.alloc (.cells #[.pointer (some ⟨b,0,none⟩)] 162));have aU:=zA hw5;have hG:w5.heap[w4.heap.size]? = some (.cells #[.pointer (some ⟨b,0,none⟩)] 162 (0,0)):=by rw [hw5];exact heap_alloc_new _ _
 have WT:=hP.below aU;have hS5:=hS.below aU;have dF:=az aU hB;cases hv0:((vn:Int) == 0);rotate_left
 ·have HX:=zC (show K.blocks x.nd x.l x.s x.r v l=false by
   have h0:vn=0:=by simpa using hv0
   have h1:v.length=0:=by rw [<-aK.out];exact h0
   simp [K.blocks,h1])
  have c1:=af dF 1 _ rfl;rw [hw5] at c1;go_wp2_with fail;rw [<-hw5];have c1:=af dF 1 _ rfl;go_quiet (fail);go_wp2_with fail;go_ret;exact ⟨ay HX.out.symm,below_drewN (bel hb aU) _⟩
 have hb5:=bel hb aU;have qR:=zC (show ¬ vn=0 by simpa using hv0);have rY:=hp.below aU;have hmk:∀ w',Below w5.heap.size w5 w'->(λw'=>Below w5.heap.size w5 w'/\w'.cell? ⟨w.heap.size,0,none⟩=some (.int .i64 x.nd)/\w'.cell? ⟨w.heap.size,1,none⟩=some (.slice x.A x.n x.c)/\w'.cell? ⟨w.heap.size + 1,0,none⟩=some (.int .i64 x.s.day)/\w'.cell? ⟨w.heap.size + 1,1,none⟩=some (.int .i64 x.s.ag)/\w'.cell? ⟨w.heap.size + 1,2,none⟩=some (.int .i64 x.s.start)/\w'.cell? ⟨w.heap.size + 1,3,none⟩=some (.int .i64 x.s.end_)/\w'.cell? ⟨w.heap.size + 1,4,none⟩=some (.int .i64 x.s.aj)/\w'.cell? ⟨w.heap.size + 1,5,none⟩=some (.slice x.s.A x.s.n x.s.c)/\w'.cell? ⟨w.heap.size + 1 + 1,0,none⟩=some (.int .i64 sh)/\w'.cell? ⟨w.heap.size + 1 + 1,1,none⟩=some (.slice V vn vc)/\w'.cell? ⟨w.heap.size + 1 + 1,2,none⟩=some (.slice LA ln lc)) w':=λw' h=>by
  have h1:=WT.below h;obtain ⟨s0,s1,s2,s3,s4,s5⟩:=(hS5.below h).cells;have h3:=az h dF;exact ⟨h,h1.c0,h1.c1,s0,s1,s2,s3,s4,s5,af h3 0 _ rfl,af h3 1 _ rfl,af h3 2 _ rfl⟩
 have S0:=hmk _ (Below.refl _ _);have aW:=hmk w5.drew (Below.refl w5.heap.size w5).drew;have V6:=bel hb5 (w2:=w5.drew) (Below.refl w5.heap.size w5).drew;go_wp2_with fail;rw [<-hw5];clear hw5 hP hS hB WT aU
 go_region_held3 (λw'=>Below w5.heap.size w5 w'/\w'.cell? ⟨w.heap.size,0,none⟩=some (.int .i64 x.nd)/\w'.cell? ⟨w.heap.size,1,none⟩=some (.slice x.A x.n x.c)/\w'.cell? ⟨w.heap.size + 1,0,none⟩=some (.int .i64 x.s.day)/\w'.cell? ⟨w.heap.size + 1,1,none⟩=some (.int .i64 x.s.ag)/\w'.cell? ⟨w.heap.size + 1,2,none⟩=some (.int .i64 x.s.start)/\w'.cell? ⟨w.heap.size + 1,3,none⟩=some (.int .i64 x.s.end_)/\w'.cell? ⟨w.heap.size + 1,4,none⟩=some (.int .i64 x.s.aj)/\w'.cell? ⟨w.heap.size + 1,5,none⟩=some (.slice x.s.A x.s.n x.s.c)/\w'.cell? ⟨w.heap.size + 1 + 1,0,none⟩=some (.int .i64 sh)/\w'.cell? ⟨w.heap.size + 1 + 1,1,none⟩=some (.slice V vn vc)/\w'.cell? ⟨w.heap.size + 1 + 1,2,none⟩=some (.slice LA ln lc))
  (first | assumption | exact S0 | exact aW)
  (first
   | (go_at_call 78;refine (agn x V vn vc v w5.drew (hx.below V6) (hV.below V6) lg hvn).mono ?_;rintro e w6 ⟨⟨A6,n6,c6,rfl,gV⟩,b6⟩;have Io:Below w5.heap.size w5 w6:=bel (w1:=w5.drew) (Below.refl _ _).drew b6;have S6:=hmk _ Io)
   | (go_at_call 138;refine (ad9 LA A6 ln n6 lc c6 l (K.aS x.nd x.l x.s x.r v) w6 (aQ.below hL (bel hb5 Io)) gV hln (by rw [gV.1];exact Nat.le_trans (K.Qz _ _ _ _ _) (by omega))).mono ?_;rintro e w7 ⟨rfl,b7⟩;have h57:=bel Io b7;have S7:=hmk _ h57)
   | fail)
 obtain ⟨z,hz⟩:=zB (decide (l=K.aS x.nd x.l x.s x.r v));rw [<-hz];have HZ:=zC hz;have hb7:=bel hb5 h57;clear S0 aW S6 Io gV b6 b7 hmk hz;cases z
 ·have HX:=zC (show K.blocks x.nd x.l x.s x.r v l=false by unfold K.blocks;rw [<-HZ.out];simp);clear S7;go_wp2_with fail;go_ret;exact ⟨ay HX.out.symm,hb7⟩
 ·have hll:l=K.aS x.nd x.l x.s x.r v:=of_decide_eq_true HZ.out.symm;obtain ⟨N,hN⟩:∃ N,N=2 ^ vn:=⟨_,rfl⟩;have hN1:1<=N:=by rw [hN];exact Nat.two_pow_pos vn
  have DT:N<=64:=by rw [hN];exact Nat.pow_le_pow_right (by omega) hv6
  have hw1:IntKind.i64.wrap ((2:Int) ^ vn)=(N:Int):=by rw [pz (by omega),hN];simp
  have hw2:wrap64 ((2:Int) ^ vn)=(N:Int):=by rw [<-IntWalk.i64_left];exact hw1
  have tq:=zC hN;clear hN;obtain ⟨al,hal⟩:=zB (N - 1);have hw3:IntKind.i64.wrap ((N:Int) - 1)=(al:Int):=by rw [IntWalk.i64_in _ (by omega)];omega
  have hw4:wrap64 ((N:Int) - 1)=(al:Int):=by rw [<-IntWalk.i64_left];exact hw3
  have HX:=zC (show K.blocks x.nd x.l x.s x.r v l=!(l.any (K.opensAt x.nd x.l x.s x.r v al)) by
   unfold K.blocks;rw [<-HZ.out,aJ.out,hal,tq.out,aK.out];have h0:(v.length == 0)=false:=by have:=qR.out;rw [aK.out] at this;simpa using this
   rw [h0];simp)
  have Yi:∀ y ∈ l,GL ⟨x,V,vn,vc,v⟩ y:=by rw [hll];exact hp.aS
  have hal2:al < 256:=by omega
  obtain ⟨w8,hw8⟩:=zB (w7.alloc (.cells #[.int .i64 (al:Int)] 3));have oz:=zA hw8;have Ip:=bel h57 oz;have hA:w8.heap[w7.heap.size]? = some (.cells #[.int .i64 (al:Int)] 3 (0,0)):=by rw [hw8];exact heap_alloc_new _ _
  have e2:=af (az Ip dF) 2 _ rfl;have e1:=af (az h57 dF) 1 _ rfl;rw [hw8] at e2;have hp8:=rY.below Ip;have CC:=adY b mb ⟨x,V,vn,vc,v⟩ al w7.heap.size w4.heap.size (w.heap.size + 1) LA ln lc l w8 hp8 (λg hg=>hg.elim) hA (az Ip hG) (hS5.below Ip) hal2 (aQ.below hL (bel hb7 oz)) hln Yi;obtain ⟨r9,b_⟩:=zB (l.any (K.opensAt x.nd x.l x.s x.r v al));simp only [<-b_] at CC;rw [<-b_] at HX;clear S7 hal b_ hll Yi;go_wp2_with fail;rw [<-hw8];clear e1 e2 hw8;refine CC.mono ?_;rintro e w9 ⟨rfl,hW⟩;go_wp2_with fail;go_ret;exact ⟨ay HX.out.symm,a_ (bel hb7 oz) hW.1 (λg e=>by injection e with e;omega)⟩
theorem aaf (A:Option Addr) (n c:Nat) (l:List Int) (m:Nat) (w:World) (hl:Ints w A n l) (hn:n<=8) (hm:m < 256) :
  Calls Tryz.prog 183 #[.slice A n c,.int .i64 m] w λe w'=>GU w w' (K.part l m) e:=by
 have aK:=zC hl.1;go_enter Tryz.func183,Tryz.ntmps183;go_wp2_with fail;go_loopw [5,6] (λv5 v6 wr=>∃ (k:Nat),v6=.int .i64 k/\k<=n/\wr.ownsRow w.heap.size 3 1 v5 (K.part (l.take k) m).length (intCells (K.part (l.take k) m))/\Below w.heap.size w wr) (λ_ v6 _=>n - (intOf v6).toNat)
 case atStart=>exact ⟨0,rfl,by omega,World.ownsRow_nil _ _ _ _,Below.refl _ _⟩
 case round =>
  obtain ⟨k,rfl,hk,hown,hbr⟩:=hrel;by_cases hlt:k < n
  ·obtain ⟨iM,i,rfl,hi,ci⟩:=(hl.below hbr).at_ hlt;have k0:(0:Int)<=(k:Int):=by omega
   have k1:(k:Int) < (n:Int):=by omega
   have HT:=zC (take_snoc hi);have pM:=zC (show (l.take k).length=k by rw [List.length_take,<-aK.out];omega);have hpl:(K.part (l.take k) m).length<=8:=by have:=K.nN (l.take k) m;rw [pM.out] at this;omega
   clear hi;cases hbit:m.testBit k
   ·have hb1:bits BinOp.and IntKind.i64 ((m:Int) / 2 ^ k) 1=0:=by rw [lI hm (by omega),hbit];rfl
    have HN:=zC (show K.part (l.take (k + 1)) m=K.part (l.take k) m by rw [HT.out,K.BO,pM.out,hbit];simp);clear hbit;go_wp2_with fail;go_roundw
    case rel=>exact ⟨k + 1,by go_num,by omega,by rw [HN.out];exact hown,hbr⟩
    case measure=>simp [intOf];omega
   ·have hb1:bits BinOp.and IntKind.i64 ((m:Int) / 2 ^ k) 1=1:=by rw [lI hm (by omega),hbit];rfl
    have HN:=zC (show K.part (l.take (k + 1)) m=K.part (l.take k) m ++ [i] by rw [HT.out,K.BO,pM.out,hbit];simp);have ha:Below wr.heap.size wr (wr.alloc (.cells #[.int .i64 i] 3)):=(Below.refl _ _).alloc (zG _) _;have hown2:=own_below hown ha;have hs2:w.heap.size<=(wr.alloc (.cells #[.int .i64 i] 3)).heap.size:=Nat.le_trans hbr.size ha.size;clear hbit;go_wp2_with (at_builtin;refine rq rfl (.tmp 18) (.tmp 23) rfl w.heap.size u5 (K.part (l.take k) m).length (K.part (l.take k) m) rfl hown2 wr.heap.size i rfl (bI _ _ _ rfl) (by omega) hs2 ?_;intro tv' w6 hown6 hgrow6 gW);have b6:=a_ (bel hbr ha) hgrow6 (λg e=>(hown.lt g e).1);have HS:=zC (show (K.part (l.take k) m).length + 1=(K.part (l.take (k + 1)) m).length by rw [HN.out,List.length_append];rfl);rw [<-HN.out,HS.out] at hown6;clear hgrow6 gW hown2 hown;go_roundw
    case rel=>exact ⟨k + 1,by go_num,by omega,hown6,b6⟩
    case measure=>simp [intOf];omega
  ·have HN:=zC (show l.take k=l by exact List.take_of_length_le (by rw [<-aK.out];omega));rw [HN.out] at hown;obtain ⟨A9,c9,rfl,hI⟩:=mJ hown rfl;go_wp2_with fail;go_ret;exact ⟨⟨_,_,_,rfl,hI⟩,hbr⟩
namespace K
def Sv (nd:Int) (l:List Ro) (s:S) (r:List Q) (o:List Int) (s':S) (r':List Q) (o':List Int):Prop :=
 (run nd l s' r' o').e=0/\(run nd l s' r' o').aI.end_<=(run nd l s r o).aI.end_
theorem VP {nd:Int} {l:List Ro} {s:S} {r:List Q} {o:List Int} (h:right nd l s r o=true):Fine nd r o:=by
 obtain ⟨h1,h2,h3,h4⟩:=xy h;obtain ⟨h5,h6,h7⟩:=T.jS h2;intro i hi;have hb:=T.BH h6 i hi;obtain ⟨q,hq⟩:∃ q,r[i.toNat]? = some q:=⟨_,zF (by omega)⟩;have hr:=zO (h7 q (zD hq));have e:req r i=q:=by unfold req;rw [hq];rfl
 have:=h4 i hi;rw [e] at this ⊢;exact ⟨⟨hr.1.1,this⟩,hr.2.1.1⟩
theorem ajq {nd:Int} {l:List Ro} {s:S} {r:List Q} {o1 o2:List Int} {i:Int} (h:(run nd l s r (o1 ++ i :: o2)).e=0) :
  Sv nd l s r (o1 ++ i :: o2) s r (o1 ++ o2)/\∃ t1 t2 t2' b,(run nd l s r (o1 ++ i :: o2)).aI.times=t1 ++ b :: t2/\(run nd l s r (o1 ++ o2)).aI.times=t1 ++ t2'/\t1.length=o1.length/\Ahead t2' t2:=by
 obtain ⟨h1,h2,h3,h4⟩:=uZ h;obtain ⟨p1,p2,p3,p4⟩:=xy h1;obtain ⟨-,⟨d0,d1⟩,st0,st1,-⟩:=pW (T.jS p2).1;have oO:=VP h1;have hsub:(o1 ++ o2).Sublist (o1 ++ i :: o2):=(List.Sublist.refl o1).append (List.sublist_cons_self i o2);have hr':=aiA h1 hsub;have hp1:=(agC (nd:=nd) (l:=l) (s:=s) (r:=r) (o1 ++ i :: o2) [] s.ag s.start o1.length).1 (by
  have:=(Zi (nd:=nd) (l:=l) (s:=s) (r:=r) (o1 ++ i :: o2) [] s.ag s.start).1 h2;rw [this,List.length_append];omega)
 rw [List.take_left] at hp1;have e1:(ak nd l s r [] s.ag s.start o1).e=0:=hp1.1;have hl1:=(Zi (nd:=nd) (l:=l) (s:=s) (r:=r) o1 [] s.ag s.start).1 e1;have hA:=Zg o1 [] s.ag s.start (i :: o2) e1;have hB:=Zg o1 [] s.ag s.start o2 e1;rw [List.nil_append] at hA hB;obtain ⟨ha,ht⟩:=agz o1 [] s.ag s.start (λj hj=>oO j (List.mem_append_left _ hj)) ⟨d0,p3⟩ st0 e1;obtain ⟨a,hae⟩:=zB ((ak nd l s r [] s.ag s.start o1).a);obtain ⟨t,hte⟩:=zB ((ak nd l s r [] s.ag s.start o1).t);rw [<-hae,<-hte] at hA hB;rw [<-hae] at ha;rw [<-hte] at ht;have e2:(ak nd l s r o1 a t (i :: o2)).e=0:=by
  have:(ak nd l s r [] s.ag s.start (o1 ++ i :: o2)).e=0:=h2;rw [hA] at this;exact this
 obtain ⟨k1,k2⟩:=JC e2;have e3:(ak nd l s r (o1 ++ [i]) (req r i).node ((ax nd l s r o1 i a t).1 + (req r i).service) o2).e=0:=by rw [k2] at e2;exact e2
 obtain ⟨⟨n0,n1⟩,n2⟩:=oO i (by simp);obtain ⟨-,-,l3,l4,l5,l6,l7⟩:=xk k1;obtain ⟨r1,r2,r3,r4⟩:=o7 l4;obtain ⟨-,-,-,f4,-⟩:=H.lM l5;have hpi:(o1 ++ [i]).Sublist (o1 ++ i :: o2):=(List.Sublist.refl o1).append (by simp);have hw0:T.weight s r o1<=T.weight s r (o1 ++ [i]):=T.ab5 (T.E5 p2 hpi) (by simp);have hd:Dom nd l s r (o1 ++ [i]) (req r i).node ((ax nd l s r o1 i a t).1 + (req r i).service) s r o1 a t:=by
  intro c hc hrc;obtain ⟨w1,w2,w3,w4⟩:=o7 hrc;obtain ⟨g1,g2,g3⟩:=aj8 p1 ha ⟨n0,n1⟩ hc hw0 r1 w1;have:t + way nd l a (T.weight s r o1) c<=(reach nd l s r (o1 ++ [i]) (req r i).node ((ax nd l s r o1 i a t).1 + (req r i).service) c).1:=by
   rw [w3,l6];omega
  rw [aaF g1 (by omega)];exact ⟨rfl,by simp only;omega,by simp only;exact this⟩
 have hsubs:∀ p,p <+: o2->(o1 ++ p).Sublist (o1 ++ [i] ++ p)/\T.load s r (o1 ++ [i] ++ p)=true:=λp hp=>by
  refine ⟨by simp,T.E5 p2 ?_⟩;rw [List.append_assoc];exact (List.Sublist.refl o1).append (List.Sublist.cons_cons i hp.sublist)
 obtain ⟨g1,g2,g3⟩:=agA p1 (s:=s) (s':=s) rfl (Int.le_refl _) o2 (o1 ++ [i]) o1 _ _ _ _ (λ_ _=>⟨rfl,rfl,rfl,rfl,rfl⟩) (λj hj=>oO j (by simp [hj])) (λp hp=>T.ab5 (hsubs p hp).2 (hsubs p hp).1) (λp hp hf=>T.aeB hf (hsubs p hp).1) hd e3;have hb:=g3 s.ag ⟨d0,p3⟩ (by
  have h9:=h3;unfold back all at h9;rw [hA,k2] at h9;simp only at h9;simpa using h9)
 have hall:(all nd l s r (o1 ++ o2)).e=0:=by unfold all;rw [hB];exact g1
 have hb1:(back nd l s r (o1 ++ o2)).2=0:=by unfold back all;rw [hB];exact hb.1
 have h5:=run_mk hr' hall hb1;unfold Sv;rw [h5,h4];refine ⟨⟨rfl,?_⟩,(ak nd l s r [] s.ag s.start o1).times,(ak nd l s r (o1 ++ [i]) (req r i).node ((ax nd l s r o1 i a t).1 + (req r i).service) o2).times,(ak nd l s r o1 a t o2).times,(ax nd l s r o1 i a t).1,?_,?_,hl1,g2⟩
 ·have:=hb.2.2;unfold back all;rw [hA,hB,k2];simp only;simpa using this
 ·simp only;unfold all;rw [hA,k2]
 ·simp only;unfold all;rw [hB]
end K
theorem pg {P:Program} {w:World} {ops:Array Oper} {o:Oper} {a:Act} {K:Act->World->Prop} {Q:Exit->Act->World->Prop} {E:Prop} (hgd:o.guard=none) (s x:Operand) (t:TypeId)
  (ho:o.op=.call { callee:=.builtin .append,args:=#[s,x],argTypes:=#[t,t] })
  (base:Nat) (e:TypeId) (i:TypeInfo) (z:Value) (size bytes:Nat) (ht:P.underlying t=some (.slice e)) (hi:P.info? e=some i) (hz:i.zero=some z)
  (hsize:i.size=size) (hby:i.bytes=bytes) (hzs:z.cells.size=size) (hsz:0 < size)
  (v:Value) (n:Nat) (xs:List Value) (hs:a.eval s=v) (hown:w.ownsRow base e size v n xs)
  (A:Option Addr) (m c:Nat) (news:List Value) (hx:a.eval x=.slice A m c) (hr:Rd w size A m news) (h1:∀ u ∈ news,u.oneCell'=true)
  (h63:n + m<=maxLen) (hbytes:(n + m) * bytes<=140737488355328) (hbase:base<=w.heap.size)
  (h:∀ v' w',w'.ownsRow base e size v' (n + m) (xs ++ news)->w.grownBy w' v.ownBlock->(v'.ownBlock=v.ownBlock\/v'.ownBlock=some w.heap.size)->K (a.put o.dst v') w') :
  if Region.wanted o (yielded ops a.tmps)=true then Oper.wp P o a w K Q else E:=by
 have hw:Region.wanted o (yielded ops a.tmps)=true:=by simp [Region.wanted,hgd]
 rw [if_pos hw];obtain ⟨v',w',hrun,h2,h3,h4⟩:=abu (P:=P) w base t o.type e i z size bytes ht hi hz hsize hby hzs hsz v n xs hown A m c news hr h1 h63 hbytes hbase;unfold Oper.wp execOp;simp only [ho,resolve,invoke,builtin,Sem.run_bind,Sem.run_pure,Result.andThen_ok,List.map_toArray,List.map_cons,List.map_nil,hs,hx,hrun];exact h v' w' h2 h3 h4
theorem Ints.drop {w:World} {A:Option Addr} {n:Nat} {l:List Int} (h:Ints w A n l) {ad:Addr} (e:A=some ad) {k:Nat} (hk:k<=n):Ints w (some (ad.add k)) (n - k) (l.drop k):=by
 subst e;refine ⟨by rw [List.length_drop,<-h.1],by simp [intCells];have:=h.1;omega,λh0=>?_⟩;obtain ⟨ad',e,hc⟩:=h.2.2 (by omega);injection e with e;subst e;refine ⟨_,rfl,λj u hu=>?_⟩;rw [intCells,List.map_drop,List.getElem?_drop] at hu;rw [add_add];exact hc (k + j) u hu
theorem mM {w:World} {base g:Nat} {e:TypeId} {size:Nat} (h:w.heap[g]? = some (.cells #[] e (0,0))) (hb:base<=g):w.ownsRow base e size (.slice (some ⟨g,0,none⟩) 0 0) 0 [] :=
 ⟨by simp,.inr ⟨g,0,#[],rfl,hb,h,zG _,by simp [maxLen],by simp,by simp⟩⟩
theorem zq {base b n c:Nat} (h:base<=b):∀ g,(Value.slice (some ⟨b,0,none⟩) n c).ownBlock=some g->base<=g:=λg e=>by
 have e:some b=some g:=e;injection e with e;omega
theorem Zr {g b n c:Nat} (h:g ≠ b):some g ≠ (Value.slice (some ⟨b,0,none⟩) n c).ownBlock:=λe=>by
 have e:some g=some b:=e;injection e with e;exact h e
theorem yx {α:Type} {l:List α} {k:Nat} {a:α} (h:l[k]? = some a):l.drop k=a :: l.drop (k + 1):=by
 obtain ⟨hk,e⟩:=zE.1 h;rw [List.drop_eq_getElem_cons hk,e]
theorem abr (x:C) (V:Option Addr) (vn vc:Nat) (v:List Int) (w:World) (hx:At w x) (hV:Ints w V vn v) (hvn:vn<=1000000000) :
  Calls Tryz.prog 179 #[.agg #[.int .i64 x.nd,.slice x.A x.n x.c],.agg #[.int .i64 x.s.day,.int .i64 x.s.ag,.int .i64 x.s.start,.int .i64 x.s.end_,.int .i64 x.s.aj,.slice x.s.A x.s.n x.s.c],.slice x.B x.m x.d,.slice V vn vc] w λe w'=>e=.returned (.bool (K.right x.nd x.l x.s x.r v))/\Below w.heap.size w w':=by
 have b0:=((Below.refl w.heap.size w).alloc (zG _) (.cells #[.int .i64 x.nd,.slice x.A x.n x.c] 24)).alloc (by rw [World.size_alloc];omega) (.cells #[.int .i64 x.s.day,.int .i64 x.s.ag,.int .i64 x.s.start,.int .i64 x.s.end_,.int .i64 x.s.aj,.slice x.s.A x.s.n x.s.c] 63);have SZ:=World.size_alloc w (.cells #[.int .i64 x.nd,.slice x.A x.n x.c] 24);have hP:=(Net.new w x.nd x.A x.n x.c).below ((Below.refl _ _).alloc (zG _) (.cells #[.int .i64 x.s.day,.int .i64 x.s.ag,.int .i64 x.s.start,.int .i64 x.s.end_,.int .i64 x.s.aj,.slice x.s.A x.s.n x.s.c] 63));have hS:=aT.new (w.alloc (.cells #[.int .i64 x.nd,.slice x.A x.n x.c] 24)) x.s;rw [SZ] at hS;have p0:=hP.c0;have p1:=hP.c1;go_enter Tryz.func179,Tryz.ntmps179;go_wp2_with fail;obtain ⟨w0,hw0⟩:=zB ((w.alloc (.cells #[.int .i64 x.nd,.slice x.A x.n x.c] 24)).alloc (.cells #[.int .i64 x.s.day,.int .i64 x.s.ag,.int .i64 x.s.start,.int .i64 x.s.end_,.int .i64 x.s.aj,.slice x.s.A x.s.n x.s.c] 63));rw [<-hw0] at b0 hP hS ⊢;clear hw0 p0 p1 SZ;refine (FN x.nd x.A x.n x.c x.l _ (aQ.below hx.net b0) hx.b1).mono ?_;rintro e w1 ⟨rfl,b1⟩;have hP:=hP.below b1;have hS:=hS.below b1;have hb:=bel b0 b1;clear b0 b1;have p0:=hP.c0;have p1:=hP.c1;obtain ⟨s0,s1,s2,s3,s4,s5⟩:=hS.cells;cases h1:(K.aG x.nd x.l == 0)
 ·have HX:=zC (show K.right x.nd x.l x.s x.r v=false by simp [K.right,h1]);have h1':(K.aG x.nd x.l != 0)=true:=by simp [bne,h1]
  clear h1;go_wp2_with fail;go_ret;exact ⟨ay HX.out.symm,hb⟩
 have h1':(K.aG x.nd x.l != 0)=false:=by simp [bne,h1]
 have HE:=zC h1;clear h1;go_wp2_with fail;refine (QE x.s x.B x.m x.d x.r V vn vc v _ (hx.below hb).g_ hx.b2 (hx.below hb).aN hx.b3 hx.b4 (hV.below hb) hvn).mono ?_;rintro e w2 ⟨rfl,b2⟩;have hP:=hP.below b2;have hS:=hS.below b2;have hb:=bel hb b2;clear b2 p0 p1 s0 s1 s2 s3 s4 s5;have p0:=hP.c0;have p1:=hP.c1;obtain ⟨s0,s1,s2,s3,s4,s5⟩:=hS.cells;cases h2:T.load x.s x.r v
 ·have HX:=zC (show K.right x.nd x.l x.s x.r v=false by simp [K.right,h2]);clear h2;go_wp2_with fail;go_ret;exact ⟨ay HX.out.symm,hb⟩
 have HL:=zC h2;clear h2;by_cases h3:x.s.ag < x.nd
 ·have HX:=zC (show K.right x.nd x.l x.s x.r v=v.all λi=>decide ((K.req x.r i).node < x.nd) by simp only [K.right];rw [HE.out,HL.out];simp [h3]);have hset:=zC (T.BH (T.jS HL.out).2.1);go_wp2_with fail;go_loopw [9] (λvi wr=>∃ k:Nat,vi=.int .i64 k/\k<=vn/\Hid (K.right x.nd x.l x.s x.r v=(v.drop k).all λi=>decide ((K.req x.r i).node < x.nd))/\Below w2.heap.size w2 wr) (λvi _=>vn - (intOf vi).toNat)
  case atStart=>exact ⟨0,rfl,by omega,HX.out,Below.refl _ _⟩
  case round =>
   obtain ⟨k,rfl,hk,hr,hbr⟩:=hrel;by_cases hlt:k < vn
   ·obtain ⟨iM,i,rfl,hi,ci⟩:=(hV.below (bel hb hbr)).at_ hlt;have HS:=zC (K.Uy (nd:=x.nd) (r:=x.r) hi);obtain ⟨hi0,hi1⟩:=hset.out i (zD hi);obtain ⟨j,rfl⟩:∃ j:Nat,i=(j:Int):=⟨i.toNat,by omega⟩;have hjm:j < x.m:=by rw [hx.aN.1];omega
    obtain ⟨ad,q,hB,hgq,hwq,e0,e1,e2,e3,e4,e5,e6⟩:=(hx.aN.below (bel hb hbr)).at_ hjm;have dB:=zC (K.jH hgq);have hP3:=hP.below hbr;have p0:=hP3.c0;have j0:(0:Int)<=(j:Int):=by omega
    have j1:(j:Int) < (x.m:Int):=by omega
    clear hi hgq;by_cases hn:q.node < x.nd
    ·have HN:=zC (show K.right x.nd x.l x.s x.r v=(v.drop (k + 1)).all λi=>decide ((K.req x.r i).node < x.nd) by rw [hr.out,HS.out,dB.out];simp [hn]);rw [hB];go_wp2_with fail;go_quiet (fail);go_wp2_with fail;go_roundw
     case rel=>exact ⟨k + 1,by go_num,by omega,HN.out,below_drewN hbr _⟩
     case measure=>simp [intOf];omega
    ·have HN:=zC (show K.right x.nd x.l x.s x.r v=false by rw [hr.out,HS.out,dB.out];simp [hn]);rw [hB];go_wp2_with fail;go_quiet (fail);go_wp2_with fail;go_ret;exact ⟨ay HN.out.symm,below_drewN (bel hb hbr) _⟩
   ·have HN:=zC (show K.right x.nd x.l x.s x.r v=true by rw [hr.out,List.drop_eq_nil_of_le (by rw [<-hV.1];omega)];rfl);go_wp2_with fail;go_ret;exact ⟨ay HN.out.symm,bel hb hbr⟩
 ·have HX:=zC (show K.right x.nd x.l x.s x.r v=false by simp [K.right,h3]);go_wp2_with fail;go_ret;exact ⟨ay HX.out.symm,hb⟩
theorem aby (nd:Int) (A:Option Addr) (n c:Nat) (l:List Ro) (a:Int) (v:Nat) (k:Int) (w:World) (hl:jf w A n l) (hn:n<=1000000000) (hne:K.aG nd l=0) (ha:0<=a/\a < nd) (hv:(v:Int) < nd) :
  Calls Tryz.prog 181 #[.agg #[.int .i64 nd,.slice A n c],.int .i64 a,.int .i64 v,.int .i64 k] w λe w'=>e=.returned (.int .i64 (K.way nd l a k v))/\Below w.heap.size w w':=by
 have b0:=(Below.refl w.heap.size w).alloc (zG _) (.cells #[.int .i64 nd,.slice A n c] 24);have hP:=Net.new w nd A n c;have p0:=hP.c0;have p1:=hP.c1;go_enter Tryz.func181,Tryz.ntmps181;go_wp2_with fail;refine (Kw nd A n c l a k _ (aQ.below hl b0) hn).mono ?_;rintro e w1 ⟨⟨A1,n1,c1,rfl,hI⟩,b1⟩;have hlen:=K.KN (k:=k) hne ha;obtain ⟨ad,y,rfl,hy,cy⟩:=hI.at_ (k:=v) (by rw [hI.1,hlen];omega);have hwy:K.way nd l a k v=y:=by unfold K.way;rw [G.Dy hy]
 have k0:(0:Int)<=(v:Int):=by omega
 have k1:(v:Int) < (n1:Int):=by rw [hI.1,hlen];omega
 have HW:=zC hwy;clear hlen hy hwy hI p0 p1;go_wp2_with fail;go_ret;exact ⟨by rw [HW.out];rfl,bel b0 b1⟩
namespace K
def lV (n:Int):Int->List Int->Bool
 | _,[]=>true
 | p,k :: rest=>decide (0<=k) && (decide (k < n) && (decide (p < k) && lV n k rest))
def o9 (l:List Int) (n:Int):Bool:=lV n (-1) l && decide (l.length<=6)
theorem ahn {n:Int} {v:List Int} {k:Nat} {i:Int} (h:v[k]? = some i) (p:Int):lV n p (v.drop k)=(decide (0<=i) && (decide (i < n) && (decide (p < i) && lV n i (v.drop (k + 1))))):=by
 obtain ⟨hk,e⟩:=zE.1 h;rw [List.drop_eq_getElem_cons hk,e];rfl
theorem ZZ {n:Int}:∀ (l:List Int) (p:Int),lV n p l=true->(∀ x ∈ l,0<=x/\x < n)/\(∀ x ∈ l,p < x)/\l.Nodup
 | [],_,_=>⟨by simp,by simp,List.nodup_nil⟩
 | i :: l,p,h=>by
  simp only [lV,Bool.and_eq_true,decide_eq_true_eq] at h;obtain ⟨h1,h2,h3⟩:=ZZ l i h.2.2.2;refine ⟨λx hx=>?_,λx hx=>?_,List.nodup_cons.2 ⟨λhi=>by have:=h2 i hi;omega,h3⟩⟩
  ·rcases List.mem_cons.1 hx with rfl | hx
   ·exact ⟨h.1,h.2.1⟩
   ·exact h1 x hx
  ·rcases List.mem_cons.1 hx with rfl | hx
   ·exact h.2.2.1
   ·have:=h2 x hx;have:=h.2.2.1;omega
theorem abI {nd:Int} {r:List Q}:∀ (l:List Int) (p:Int),jI nd r p l=(lV (r.length:Int) p l && l.all λi=>decide ((req r i).node < nd))
 | [],_=>rfl
 | i :: l,p=>by
  simp only [jI,lV,List.all_cons,abI l i];cases decide (0<=i) <;> cases decide (i < (r.length:Int)) <;> cases decide (p < i) <;> cases decide ((req r i).node < nd) <;> simp
theorem JP (nd:Int) (l:List Ro) (s:S) (r:List Q) (v:List Int):aP nd l s r v=(o9 v (r.length:Int) && right nd l s r v):=by
 unfold aP o9 right;rw [abI];cases h1:lV (r.length:Int) (-1) v
 ·simp
 ·obtain ⟨a,-,c⟩:=ZZ _ _ h1;have hs:T.isSet (r.length:Int) v=true:=T.xe.2 ⟨a,c⟩;unfold T.load;rw [hs];cases (aG nd l == 0) <;> cases (T.check s == 0) <;> cases decide (s.ag < nd) <;> cases (r.any λq=>!T.right q) <;> cases decide (v.length<=6) <;> simp
end K
theorem ajj (A:Option Addr) (n c:Nat) (v:List Int) (m:Int) (w:World) (hV:Ints w A n v) (hn:n<=1000000000) :
  Calls Tryz.prog 178 #[.slice A n c,.int .i64 m] w λe w'=>e=.returned (.bool (K.o9 v m))/\Below w.heap.size w w':=by
 have aK:=zC hV.1;go_enter Tryz.func178,Tryz.ntmps178;go_wp2_with fail;go_loopw [5] (λv5 wr=>∃ k:Nat,v5=.int .i64 k/\k<=n/\Hid (K.lV m (-1) v=K.lV m (K.prev v k) (v.drop k))/\Below w.heap.size w wr) (λv5 _=>n - (intOf v5).toNat)
 case atStart=>exact ⟨0,rfl,by omega,rfl,Below.refl _ _⟩
 case round =>
  obtain ⟨k,rfl,hk,hr,hbr⟩:=hrel;by_cases hlt:k < n
  ·obtain ⟨iM,i,rfl,hi,ci⟩:=(hV.below hbr).at_ hlt;have HR:=zC (hr.out.trans (K.ahn hi (K.prev v k)));have aV:=zC (show K.prev v (k + 1)=i by simp [K.prev,hi]);clear hi hr;have k0:(0:Int)<=(k:Int):=by omega
   have k1:(k:Int) < (n:Int):=by omega
   cases c1:decide (i < 0);rotate_left
   ·have HX:=zC (show K.o9 v m=false by unfold K.o9;rw [HR.out];have:=of_decide_eq_true c1;simp;omega);go_wp2_with fail;go_quiet (fail);go_wp2_with fail;go_ret;exact ⟨ay HX.out.symm,below_drewN hbr _⟩
   have hi0:¬ i < 0:=of_decide_eq_false c1;cases c2:decide (m<=i);rotate_left
   ·have HX:=zC (show K.o9 v m=false by unfold K.o9;rw [HR.out];have:=of_decide_eq_true c2;simp;intros;omega);go_wp2_with fail;go_quiet (fail);go_wp2_with fail;go_ret;exact ⟨ay HX.out.symm,below_drewN hbr _⟩
   have hi1:¬ m<=i:=of_decide_eq_false c2;rcases Nat.eq_zero_or_pos k with hk0 | hk0
   ·have Gt:=zC hk0;have k2:decide ((0:Int) < (k:Int))=false:=by simp;omega
    have EN:decide (0 < k)=false:=by simp;omega
    clear hk0;have HN:=zC (show K.lV m (-1) v=K.lV m (K.prev v (k + 1)) (v.drop (k + 1)) by
     rw [HR.out,aV.out,show K.prev v k=-1 by rw [Gt.out];rfl];simp [show (0:Int)<=i by omega,show i < m by omega,show (-1:Int) < i by omega])
    go_wp2_with fail;go_quiet (fail);go_wp2_with fail;go_roundw
    case rel=>exact ⟨k + 1,by go_num,by omega,HN.out,below_drewN hbr _⟩
    case measure=>simp [intOf];omega
   ·obtain ⟨kp,hkp⟩:∃ kp:Nat,k=kp + 1:=⟨k - 1,by omega⟩;obtain ⟨Uw,pv,ep,hp,cp⟩:=(hV.below hbr).at_ (k:=kp) (by omega);injection ep with ep;subst ep;have Dc:=zC (show K.prev v k=pv by rw [hkp];simp [K.prev,hp]);have k2:decide ((0:Int) < (k:Int))=true:=by simp;omega
    have EN:decide (0 < k)=true:=by simp;omega
    have k3:IntKind.i64.wrap ((k:Int) - 1)=(kp:Int):=by rw [IntWalk.i64_in _ (by omega)];omega
    have k4:(kp:Int) < (n:Int):=by omega
    have k5:(0:Int)<=(kp:Int):=by omega
    have k6:decide ((kp:Int) < 0)=false:=by simp
    have Tt:=zC hkp;clear hp hkp;cases c4:decide (i<=pv)
    ·have HN:=zC (show K.lV m (-1) v=K.lV m (K.prev v (k + 1)) (v.drop (k + 1)) by
      have:=of_decide_eq_false c4;rw [HR.out,aV.out,Dc.out];simp [show (0:Int)<=i by omega,show i < m by omega,show pv < i by omega])
     go_wp2_with fail;go_quiet (fail);go_wp2_with fail;go_roundw
     case rel=>exact ⟨k + 1,by go_num,by omega,HN.out,below_drewN hbr _⟩
     case measure=>simp [intOf];omega
    ·have HX:=zC (show K.o9 v m=false by unfold K.o9;rw [HR.out,Dc.out];have:=of_decide_eq_true c4;simp;intros;omega);go_wp2_with fail;go_quiet (fail);go_wp2_with fail;go_ret;exact ⟨ay HX.out.symm,below_drewN hbr _⟩
  ·have HN:=zC (show K.o9 v m=decide (v.length<=6) by unfold K.o9;rw [hr.out,List.drop_eq_nil_of_le (by rw [<-aK.out];omega)];rfl);go_wp2_with fail;go_ret;exact ⟨by rw [HN.out,<-aK.out];simp;omega,hbr⟩
theorem Kq (x:C) (V:Option Addr) (vn vc:Nat) (v:List Int) (w:World) (hx:At w x) (hV:Ints w V vn v) (hvn:vn<=1000000000) :
  Calls Tryz.prog 130 #[.agg #[.int .i64 x.nd,.slice x.A x.n x.c],.agg #[.int .i64 x.s.day,.int .i64 x.s.ag,.int .i64 x.s.start,.int .i64 x.s.end_,.int .i64 x.s.aj,.slice x.s.A x.s.n x.s.c],.slice x.B x.m x.d,.slice V vn vc] w λe w'=>e=.returned (.bool (K.aP x.nd x.l x.s x.r v))/\Below w.heap.size w w':=by
 have b0:=((Below.refl w.heap.size w).alloc (zG _) (.cells #[.int .i64 x.nd,.slice x.A x.n x.c] 24)).alloc (by rw [World.size_alloc];omega) (.cells #[.int .i64 x.s.day,.int .i64 x.s.ag,.int .i64 x.s.start,.int .i64 x.s.end_,.int .i64 x.s.aj,.slice x.s.A x.s.n x.s.c] 63);have SZ:=World.size_alloc w (.cells #[.int .i64 x.nd,.slice x.A x.n x.c] 24);have hP:=(Net.new w x.nd x.A x.n x.c).below ((Below.refl _ _).alloc (zG _) (.cells #[.int .i64 x.s.day,.int .i64 x.s.ag,.int .i64 x.s.start,.int .i64 x.s.end_,.int .i64 x.s.aj,.slice x.s.A x.s.n x.s.c] 63));have hS:=aT.new (w.alloc (.cells #[.int .i64 x.nd,.slice x.A x.n x.c] 24)) x.s;rw [SZ] at hS;have HO:=zC (K.JP x.nd x.l x.s x.r v);have HM:=zC hx.aN.1;go_enter Tryz.func130,Tryz.ntmps130;go_wp2_with fail;obtain ⟨w0,hw0⟩:=zB ((w.alloc (.cells #[.int .i64 x.nd,.slice x.A x.n x.c] 24)).alloc (.cells #[.int .i64 x.s.day,.int .i64 x.s.ag,.int .i64 x.s.start,.int .i64 x.s.end_,.int .i64 x.s.aj,.slice x.s.A x.s.n x.s.c] 63));rw [<-hw0] at b0 hP hS ⊢;clear hw0 SZ;refine (ajj V vn vc v x.m _ (hV.below b0) hvn).mono ?_;rintro e w1 ⟨rfl,b1⟩;have hP:=hP.below b1;have hS:=hS.below b1;have hb:=bel b0 b1;clear b0 b1;cases h1:K.o9 v (x.m:Int)
 ·have HX:=zC (show K.aP x.nd x.l x.s x.r v=false by rw [HO.out,<-HM.out,h1];rfl);go_wp2_with fail;go_ret;exact ⟨ay HX.out.symm,hb⟩
 have HX:=zC (show K.aP x.nd x.l x.s x.r v=K.right x.nd x.l x.s x.r v by rw [HO.out,<-HM.out,h1];rfl);have p0:=hP.c0;have p1:=hP.c1;obtain ⟨s0,s1,s2,s3,s4,s5⟩:=hS.cells;go_wp2_with fail;refine (abr x V vn vc v _ (hx.below hb) (hV.below hb) hvn).mono ?_;rintro e w2 ⟨rfl,b2⟩;go_wp2_with fail;go_ret;exact ⟨by rw [HX.out];rfl,bel hb b2⟩
namespace K
structure St where
 bits:Nat
 a:Int
 t:Int
 stops:List Int
 times:List Int
def late (best:Option Tr) (t:Int):Bool:=match best with | none=>false | some b=>decide (b.end_<=t)
def better (best:Option Tr) (e:Int):Bool:=match best with | none=>true | some b=>decide (e < b.end_)
def home (nd:Int) (l:List Ro) (s:S) (r:List Q) (v:List Int) (st:St) (best:Option Tr):Option Tr :=
 if way nd l st.a (T.weight s r (part v st.bits)) s.ag ≠ -1/\st.t + way nd l st.a (T.weight s r (part v st.bits)) s.ag<=s.end_/\better best (st.t + way nd l st.a (T.weight s r (part v st.bits)) s.ag)=true
 then some ⟨st.stops,st.times,st.t + way nd l st.a (T.weight s r (part v st.bits)) s.ag⟩ else best
def iG (nd:Int) (l:List Ro) (s:S) (r:List Q) (v:List Int) (st:St) (i:Nat) (k:Int):Option St :=
 if st.bits.testBit i=true then none
 else if way nd l st.a (T.weight s r (part v st.bits)) (req r k).node=-1 then none
 else if (begins s r (req r k) (part v (st.bits + 2 ^ i)) (st.t + way nd l st.a (T.weight s r (part v st.bits)) (req r k).node)).2=false then none
 else some ⟨st.bits + 2 ^ i,(req r k).node,(begins s r (req r k) (part v (st.bits + 2 ^ i)) (st.t + way nd l st.a (T.weight s r (part v st.bits)) (req r k).node)).1 + (req r k).service,
  st.stops ++ [k],st.times ++ [(begins s r (req r k) (part v (st.bits + 2 ^ i)) (st.t + way nd l st.a (T.weight s r (part v st.bits)) (req r k).node)).1]⟩
def bK (nd:Int) (l:List Ro) (s:S) (r:List Q) (v:List Int):Nat->St->Option Tr->Option Tr
 | 0,_,best=>best
 | f + 1,st,best =>
  if late best st.t=true then best
  else if st.bits=2 ^ v.length - 1 then home nd l s r v st best
  else go (bK nd l s r v f) nd l s r v st best 0 v
where
 go (rec:St->Option Tr->Option Tr) (nd:Int) (l:List Ro) (s:S) (r:List Q) (v:List Int) (st:St) (best:Option Tr) (i:Nat):List Int->Option Tr
  | []=>best
  | k :: rest=>match iG nd l s r v st i k with
   | none=>go rec nd l s r v st best (i + 1) rest
   | some st'=>go rec nd l s r v st (rec st' best) (i + 1) rest
def best (nd:Int) (l:List Ro) (s:S) (r:List Q) (v:List Int):Option Tr:=bK nd l s r v (2 ^ v.length) ⟨0,s.ag,s.start,[],[]⟩ none
end K
structure eu (w w':World) (mb gb gf:Nat):Prop where
 os:w'.os=w.os
 tape:w'.tape=w.tape
 output:w'.output=w.output
 size:w.heap.size<=w'.heap.size
 block:∀ k,k < w.heap.size->k ≠ mb->k ≠ gb->k ≠ gf->w'.heap[k]? = w.heap[k]?
theorem eu.of {w w':World} {mb gb gf:Nat} (h:w.grownBy w' (some mb)):eu w w' mb gb gf:=⟨h.os,h.tape,h.output,h.size,λk hk hne _ _=>h.block k hk (λe=>hne (by injection e))⟩
theorem eu.refl (w:World) (mb gb gf:Nat):eu w w mb gb gf:=⟨rfl,rfl,rfl,zG _,λ_ _ _ _ _=>rfl⟩
theorem eu.trans {w w1 w2:World} {mb gb gf:Nat} (h:eu w w1 mb gb gf) (h2:eu w1 w2 mb gb gf):eu w w2 mb gb gf :=
 ⟨h2.os.trans h.os,h2.tape.trans h.tape,h2.output.trans h.output,Nat.le_trans h.size h2.size,λk hk a b c=>(h2.block k (Nat.lt_of_lt_of_le hk h.size) a b c).trans (h.block k hk a b c)⟩
theorem eu.below {w w1 w2:World} {mb gb gf:Nat} (h:eu w w1 mb gb gf) (h2:Below w1.heap.size w1 w2):eu w w2 mb gb gf :=
 h.trans ⟨h2.os,h2.tape,h2.output,h2.size,λk hk _ _ _=>h2.block k hk⟩
theorem eu.set {w w':World} {mb gb gf g:Nat} (h:eu w w' mb gb gf) (hg:g=gb\/g=gf) (i:Nat) (v:Value):eu w (w'.setCell ⟨g,i,none⟩ v) mb gb gf :=
 ⟨h.os,h.tape,h.output,by rw [World.size_setCell];exact h.size,λk hk a b c=>(Below.heap_setCell w' _ _ k (by rcases hg with rfl | rfl <;> assumption)).trans (h.block k hk a b c)⟩
structure nS (w:World) (gb gf:Nat) (best:Option K.Tr):Prop where
 found:w.heap[gf]? = some (.cells #[.bool best.isSome] 4 (0,0))
 blk:∃ A n c A' n' c' e,gm w gb 0 (.slice A n c) (.slice A' n' c') e/\∀ b,best=some b->Ints w A n b.stops/\Ints w A' n' b.times/\e=b.end_/\(∀ ad,A=some ad->gb < ad.block/\gf < ad.block)/\(∀ ad,A'=some ad->gb < ad.block/\gf < ad.block)/\n<=c/\n'<=c'
theorem nS.ext {w w':World} {gb gf:Nat} {best:Option K.Tr} (h:nS w gb gf best) (hx:Ext w w'):nS w' gb gf best:=by
 obtain ⟨A,n,c,A',n',c',e,hT,hb⟩:=h.blk;exact ⟨hx.cells _ _ _ _ h.found,A,n,c,A',n',c',e,hx.cells _ _ _ _ hT,λb e=>by
  obtain ⟨h1,h2,h3⟩:=hb b e;exact ⟨h1.ext hx,h2.ext hx,h3⟩⟩
theorem nS.ne {w:World} {gb gf:Nat} {best:Option K.Tr} (h:nS w gb gf best):gb ≠ gf:=λe=>by
 obtain ⟨A,n,c,A',n',c',e',hT,-⟩:=h.blk;have h1:=h.found;rw [<-e] at h1;have h2:=hT.symm.trans h1;injection h2 with h2;injection h2 with h2;simp at h2
def Dv (w w':World) (mb gb gf:Nat) (p:PS) (X:Nat->Prop) (best:Option K.Tr) (e:Ending):Prop :=
 e=.returned (.tuple #[])/\eu w w' mb gb gf/\dH w' mb p.x.nd p.x.l X/\nS w' gb gf best
structure jY (wp w:World) (mb gb gf:Nat) (p:PS) (X:Nat->Prop) (best:Option K.Tr):Prop where
 ext:Ext wp w
 memo:dH w mb p.x.nd p.x.l X
 best:nS w gb gf best
theorem jY.pat {wp w:World} {b mb gb gf:Nat} {p:PS} {X:Nat->Prop} {best:Option K.Tr} (h:jY wp w mb gb gf p X best) (hp:bP wp b mb p X):bP w b mb p X:=hp.keep h.ext h.memo
theorem jY.below {wp w w':World} {mb gb gf:Nat} {p:PS} {X:Nat->Prop} {best:Option K.Tr} (h:jY wp w mb gb gf p X best) (hb:Below w.heap.size w w'):jY wp w' mb gb gf p X best :=
 ⟨h.ext.trans (Ext.below hb),h.memo.below hb,h.best.ext (Ext.below hb)⟩
theorem jY.went {wp w w':World} {b mb gb gf:Nat} {p:PS} {X:Nat->Prop} {best:Option K.Tr} (h:jY wp w mb gb gf p X best) (hp:bP wp b mb p X) (hW:jw w w' b mb p X):jY wp w' mb gb gf p X best :=
 have hx:=hW.ext (h.pat hp)
 ⟨h.ext.trans hx,hW.2.memo,h.best.ext hx⟩
theorem jY.but {wp w w':World} {b mb gb gf:Nat} {p:PS} {X:Nat->Prop} {best best':Option K.Tr} (h:jY wp w mb gb gf p X best) (hp:bP wp b mb p X) (hgb:wp.heap.size<=gb) (hgf:wp.heap.size<=gf)
  (hB:eu w w' mb gb gf) (hM:dH w' mb p.x.nd p.x.l X) (hT:nS w' gb gf best'):jY wp w' mb gb gf p X best' :=
 ⟨⟨Nat.le_trans h.ext.size hB.size,λg cs t z e=>by
  have h1:=h.ext.cells g cs t z e;have h2:=(Array.getElem?_eq_some_iff.1 e).1;refine (hB.block g (Array.getElem?_eq_some_iff.1 h1).1 (λe2=>?_) (by omega) (by omega)).trans h1;obtain ⟨es,clock,hm,-⟩:=hp.memo;rw [e2,hm] at e;cases e⟩,hM,hT⟩
structure tK (w:World) (p:PS) (gb gf:Nat) (st:K.St) (SA:Option Addr) (sn:Nat) (TA:Option Addr) (tn:Nat):Prop where
 stops:Ints w SA sn st.stops
 times:Ints w TA tn st.times
 s1:∀ ad,SA=some ad->ad.block ≠ gb/\ad.block ≠ gf
 t1:∀ ad,TA=some ad->ad.block ≠ gb/\ad.block ≠ gf
 bits:st.bits < 2 ^ p.n
 len:st.stops.length<=st.bits
 JD:st.times.length=st.stops.length
 a0:0<=st.a/\st.a < p.x.nd
 t0:0<=st.t/\st.t<=1000000
theorem Ints.but {w w':World} {mb gb gf:Nat} {nd:Int} {lr:List Ro} {X:Nat->Prop} {A:Option Addr} {n:Nat} {l:List Int} (h:Ints w A n l) (hM:dH w mb nd lr X) (hB:eu w w' mb gb gf) (hA:∀ ad,A=some ad->ad.block ≠ gb/\ad.block ≠ gf):Ints w' A n l :=
 ⟨h.1,h.2.1,λhn=>by
  obtain ⟨ad,e,hc⟩:=h.2.2 hn;refine ⟨ad,e,λj u hu=>?_⟩;have h1:=hc j u hu;have h2:=cell_lt h1;rw [add_block] at h2;refine (World.cell?_of_block (by
   rw [add_block];refine hB.block _ h2 (λe2=>?_) (hA ad e).1 (hA ad e).2;obtain ⟨es,clock,hm,-⟩:=hM;rw [<-e2] at hm;simp only [World.cell?,add_block,hm] at h1;cases h1)).trans h1⟩
theorem tK.but {w w':World} {p:PS} {mb gb gf:Nat} {nd:Int} {lr:List Ro} {X:Nat->Prop} {st:K.St} {SA TA:Option Addr} {sn tn:Nat} (h:tK w p gb gf st SA sn TA tn) (hM:dH w mb nd lr X) (hB:eu w w' mb gb gf):tK w' p gb gf st SA sn TA tn :=
 ⟨h.stops.but hM hB h.s1,h.times.but hM hB h.t1,h.s1,h.t1,h.bits,h.len,h.JD,h.a0,h.t0⟩
theorem tK.ext {w w':World} {p:PS} {gb gf:Nat} {st:K.St} {SA TA:Option Addr} {sn tn:Nat} (h:tK w p gb gf st SA sn TA tn) (hB:Ext w w'):tK w' p gb gf st SA sn TA tn :=
 ⟨h.stops.ext hB,h.times.ext hB,h.s1,h.t1,h.bits,h.len,h.JD,h.a0,h.t0⟩
def lF (w:World) (H:Nat) (st:K.St) (SA:Option Addr) (sn sc:Nat) (TA:Option Addr) (tn tc:Nat):Prop :=
 w.heap[H]? = some (.cells #[.int .i64 (st.bits:Int),.int .i64 st.a,.int .i64 st.t,.slice SA sn sc,.slice TA tn tc] 208 (0,0))
theorem lF.cells {w:World} {H:Nat} {st:K.St} {SA TA:Option Addr} {sn sc tn tc:Nat} (h:lF w H st SA sn sc TA tn tc) :
  w.cell? ⟨H,0,none⟩=some (.int .i64 (st.bits:Int))/\w.cell? ⟨H,1,none⟩=some (.int .i64 st.a)/\w.cell? ⟨H,2,none⟩=some (.int .i64 st.t)/\w.cell? ⟨H,3,none⟩=some (.slice SA sn sc)/\w.cell? ⟨H,4,none⟩=some (.slice TA tn tc) :=
 ⟨af h 0 _ rfl,af h 1 _ rfl,af h 2 _ rfl,af h 3 _ rfl,af h 4 _ rfl⟩
theorem DC {w:World} {g:Nat} {o:Obj} (h:w.heap[g]? = some o) {g' i:Nat} (v:Value) (hne:g ≠ g'):(w.setCell ⟨g',i,none⟩ v).heap[g]? = some o :=
 (Below.heap_setCell w _ v g hne).trans h
theorem aab {w:World} {base:Nat} {e:TypeId} {size n n' c:Nat} {A:Option Addr} {xs:List Value} (h:w.ownsRow base e size (.slice A n' c) n xs):n<=c:=by
 obtain ⟨-,⟨e,e0⟩ | ⟨g',cap,cur,e,-,-,h9,-⟩⟩:=h
 ·rw [e0];exact Nat.zero_le _
 ·injection e with e1 e2 e3;rw [e3];exact h9
theorem jY.stored {wp w:World} {b mb gb gf:Nat} {p:PS} {X:Nat->Prop} {best:Option K.Tr} (h:jY wp w mb gb gf p X best) (hp:bP wp b mb p X) (hgb:wp.heap.size<=gb) (hgf:wp.heap.size<=gf) (rU:X gb) (yR:X gf)
  (S T:List Int) (en:Int) {A A':Option Addr} {n c n' c':Nat} (hA:Ints w A n S) (hA':Ints w A' n' T) (h1:∀ ad,A=some ad->gb < ad.block/\gf < ad.block) (h2:∀ ad,A'=some ad->gb < ad.block/\gf < ad.block) (hc:n<=c) (hc':n'<=c') :
  eu w (((((w.setCell ⟨gb,0,none⟩ (.int .i64 0)).setCell ⟨gb,1,none⟩ (.slice A n c)).setCell ⟨gb,2,none⟩ (.slice A' n' c')).setCell ⟨gb,3,none⟩ (.int .i64 en)).setCell ⟨gf,0,none⟩ (.bool true)) mb gb gf /\
  dH (((((w.setCell ⟨gb,0,none⟩ (.int .i64 0)).setCell ⟨gb,1,none⟩ (.slice A n c)).setCell ⟨gb,2,none⟩ (.slice A' n' c')).setCell ⟨gb,3,none⟩ (.int .i64 en)).setCell ⟨gf,0,none⟩ (.bool true)) mb p.x.nd p.x.l X /\
  nS (((((w.setCell ⟨gb,0,none⟩ (.int .i64 0)).setCell ⟨gb,1,none⟩ (.slice A n c)).setCell ⟨gb,2,none⟩ (.slice A' n' c')).setCell ⟨gb,3,none⟩ (.int .i64 en)).setCell ⟨gf,0,none⟩ (.bool true)) gb gf (some ⟨S,T,en⟩):=by
 have hmb:=hp.memo.lt;obtain ⟨A0,n0,c0,A1,n1,c1,e0,hT,-⟩:=h.best.blk;have hne:=h.best.ne;refine ⟨((((((eu.refl w mb gb gf).set (.inl rfl) _ _).set (.inl rfl) _ _).set (.inl rfl) _ _).set (.inl rfl) _ _).set (.inr rfl) _ _),
  (((((h.memo.set rU (by omega) _ _).set rU (by omega) _ _).set rU (by omega) _ _).set rU (by omega) _ _).set yR (by omega) _ _),?_,A,n,c,A',n',c',en,?_,?_⟩
 ·have hf:(((w.setCell ⟨gb,0,none⟩ (.int .i64 0)).setCell ⟨gb,1,none⟩ (.slice A n c)).setCell ⟨gb,2,none⟩ (.slice A' n' c')).setCell ⟨gb,3,none⟩ (.int .i64 en) |>.heap[gf]? = some (.cells #[.bool best.isSome] 4 (0,0)) :=
   DC (DC (DC (DC h.best.found _ (Ne.symm hne)) _ (Ne.symm hne)) _ (Ne.symm hne)) _ (Ne.symm hne)
  exact bg hf 0 _
 ·exact DC (bg (bg (bg (bg hT 0 _) 1 _) 2 _) 3 _) _ hne
 ·rintro b ⟨⟩;exact ⟨((((hA.set _ λad e=>Nat.ne_of_gt (h1 ad e).1).set _ λad e=>Nat.ne_of_gt (h1 ad e).1).set _ λad e=>Nat.ne_of_gt (h1 ad e).1).set _ λad e=>Nat.ne_of_gt (h1 ad e).1).set _ λad e=>Nat.ne_of_gt (h1 ad e).2,
   ((((hA'.set _ λad e=>Nat.ne_of_gt (h2 ad e).1).set _ λad e=>Nat.ne_of_gt (h2 ad e).1).set _ λad e=>Nat.ne_of_gt (h2 ad e).1).set _ λad e=>Nat.ne_of_gt (h2 ad e).1).set _ λad e=>Nat.ne_of_gt (h2 ad e).2,rfl,h1,h2,hc,hc'⟩
theorem aju {ops:Array Oper} {o:Oper} {a:Act} {w:World} {K:Act->World->Prop} {Q:Exit->Act->World->Prop} {E:Prop} (hgd:o.guard=none) (s x:Operand)
  (ho:o.op=.call { callee:=.builtin .append,args:=#[s,x],argTypes:=#[48,48] })
  (base:Nat) (v:Value) (n:Nat) (l:List Int) (hs:a.eval s=v) (hown:w.ownsRow base 3 1 v n (intCells l)) (g:Nat) (p:Int) (hx:a.eval x=.slice (some ⟨g,0,none⟩) 1 1)
  (hg:w.heap[g]? = some (.cells #[.int .i64 p] 3 (0,0))) (hn:n<=1000000) (hbase:base<=w.heap.size)
  (h:∀ A c w',Ints w' A (n + 1) (l ++ [p])->(∀ ad,A=some ad->base<=ad.block)->w.grownBy w' v.ownBlock->Below base w w'->K (a.put o.dst (.slice A (n + 1) c)) w') :
  if Region.wanted o (yielded ops a.tmps)=true then Oper.wp Tryz.prog o a w K Q else E:=by
 obtain ⟨i0,hi,hz0,hz1,hz2⟩:=info_parts Tryz.info3;have hl:n=l.length:=by
  have:=hown.1;simpa [intCells] using this.symm
 refine pg hgd s x 48 ho base 3 i0 (.int .i64 0) 1 8 Tryz.underlying48 hi hz0 hz1 hz2 rfl (by decide) v n (intCells l) hs hown (some ⟨g,0,none⟩) 1 1 [.int .i64 p] hx ⟨rfl,λ_=>⟨_,rfl,λj u hu=>by rw [jy];exact af hg j u (by simpa using hu)⟩⟩ (λu hu=>by simp at hu;subst hu;rfl) (by simp only [maxLen];omega) (by omega) hbase ?_;intro v' w' h2 h3 h4;obtain ⟨A,c,rfl,hR,hlt⟩:=dh h2;refine h A c w' ⟨by rw [List.length_append,<-hl];rfl,by rw [BF];exact hR⟩ (λad e=>?_) h3 ((Below.refl base w).grown h3 hbase (λk e=>(hown.lt k e).1));subst e;obtain ⟨ad0,e0,hc⟩:=hR.2 (by omega);injection e0 with e0;subst e0;rcases h2.2 with ⟨e,-⟩ | ⟨g',cap,cur,e,hb,-⟩
 ·cases e
 ·injection e with e;injection e with e;subst e;exact hb
theorem ownsRow_below {w w':World} {base:Nat} {e:TypeId} {size n:Nat} {v:Value} {xs:List Value} (h:w.ownsRow base e size v n xs) (hb:Below w.heap.size w w'):w'.ownsRow base e size v n xs:=by
 obtain ⟨hl,h1 | ⟨g,cap,cur,h1,h2,h3,h4⟩⟩:=h
 ·exact ⟨hl,.inl h1⟩
 ·exact ⟨hl,.inr ⟨g,cap,cur,h1,h2,az hb h3,h4⟩⟩
theorem abP {ops:Array Oper} {o:Oper} {a:Act} {w w2:World} {K:Act->World->Prop} {Q:Exit->Act->World->Prop} {E:Prop} (hgd:o.guard=none) (s x:Operand)
  (ho:o.op=.call { callee:=.builtin .append,args:=#[s,x],argTypes:=#[48,48] })
  {base:Nat} {v:Value} {n:Nat} {l:List Int} (hown:w2.ownsRow base 3 1 v n (intCells l)) (hbase:base<=w2.heap.size) (hs:a.eval s=v) (g:Nat) (p:Int) (hx:a.eval x=.slice (some ⟨g,0,none⟩) 1 1)
  (hw:Below w2.heap.size w2 w) (hg:w.heap[g]? = some (.cells #[.int .i64 p] 3 (0,0))) (hn:n<=1000000)
  (h:∀ A c w',Ints w' A (n + 1) (l ++ [p])->(∀ ad,A=some ad->base<=ad.block)->w.grownBy w' v.ownBlock->Below base w w'->K (a.put o.dst (.slice A (n + 1) c)) w') :
  if Region.wanted o (yielded ops a.tmps)=true then Oper.wp Tryz.prog o a w K Q else E :=
 aju hgd s x ho base v n l hs (ownsRow_below hown hw) g p hx hg hn (Nat.le_trans hbase hw.size) h
theorem adf:∀ n:Fin 7,∀ m:Fin 64,∀ k:Fin 6,m.val < 2 ^ n.val->k.val < n.val->m.val.testBit k.val=false->m.val + 2 ^ k.val < 2 ^ n.val:=by decide +kernel
theorem U4 {m i n:Nat} (hn:n<=6) (hm:m < 2 ^ n) (hi:i < n) (hb:m.testBit i=false):m + 2 ^ i < 2 ^ n :=
 adf ⟨n,by omega⟩ ⟨m,Nat.lt_of_lt_of_le hm (Nat.pow_le_pow_right (by omega) hn)⟩ ⟨i,by omega⟩ hm hi hb
theorem UX {w W w':World} (hb:Below w.heap.size w W) (_:Below W.heap.size W w'):w.heap.size<=W.heap.size:=hb.size
theorem EZ {W w':World} {g:Nat} {o:Obj} (_:Below W.heap.size W w') (h:W.heap[g]? = some o):W.heap[g]? = some o:=h
theorem Ap {w:World} {g:Nat} {o:Obj} (h:w.heap[g]? = some o):w.drew.heap[g]? = some o:=h
theorem ints_at {W w':World} {A:Option Addr} {n:Nat} {l:List Int} (_:Below W.heap.size W w') (h:Ints W A n l):∀ w'',Below W.heap.size W w''->Ints w'' A n l:=λ_ hb=>h.below hb
namespace K
theorem NS {rec:St->Option Tr->Option Tr} {nd:Int} {l:List Ro} {s:S} {r:List Q} {v:List Int} {st:St} {best:Option Tr} {k:Nat} {i:Int} (h:v[k]? = some i) (ho:iG nd l s r v st k i=none) :
  bK.go rec nd l s r v st best k (v.drop k)=bK.go rec nd l s r v st best (k + 1) (v.drop (k + 1)):=by
 rw [yx h,bK.go,ho]
theorem aeF {rec:St->Option Tr->Option Tr} {nd:Int} {l:List Ro} {s:S} {r:List Q} {v:List Int} {st st':St} {best:Option Tr} {k:Nat} {i:Int} (h:v[k]? = some i) (ho:iG nd l s r v st k i=some st') :
  bK.go rec nd l s r v st best k (v.drop k)=bK.go rec nd l s r v st (rec st' best) (k + 1) (v.drop (k + 1)):=by
 rw [yx h,bK.go,ho]
end K
end Go.Proofs.YtippdjmpkafifaaGreat
