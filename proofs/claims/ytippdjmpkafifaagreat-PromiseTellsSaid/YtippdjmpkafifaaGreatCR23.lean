import Derived.Test.YtippdjmpkafifaaGreatCR22
import Derived.Test.YtippdjmpkafifaaGreatCR15
import Derived.Test.YtippdjmpkafifaaGreatCR16
import Derived.Test.YtippdjmpkafifaaGreatCR21
import Derived.Deep.Slices
import Derived.Deep.Fields
import Derived.ChangeSame
import Derived.ProofKit
import Derived.OpenShut
import Derived.Test.YtippdjmpkafifaaGreatCR1
import Derived.Test.YtippdjmpkafifaaGreatCR4
import Derived.Test.YtippdjmpkafifaaGreatCR6
import Derived.Test.YtippdjmpkafifaaGreatCR12
set_option maxRecDepth 100000
set_option maxHeartbeats 64000000
namespace Go.Proofs.YtippdjmpkafifaaGreat
open Go.RowKit
abbrev eY:Obj:=.cells #[.int .i64 0,.slice none 0 0,.slice none 0 0,.slice none 0 0] 44
abbrev bV:Obj:=.cells #[.bool false,.slice none 0 0,.slice none 0 0,.slice none 0 0] 50
theorem akb (w:World):ay 30 #[] w (bg w true):=by
 go_enter Tryz.func30,Tryz.ntmps30;go_wp2_with fail;refine (age _).mono ?_;rintro e w0 ⟨⟨A,c,A2,c2,SA,sc,rfl,hR0,hS0⟩,b0⟩;obtain ⟨x,hx⟩:∃ x:Cs,x=⟨2,A,2,c,K.mF,SA,1,sc,[K.mY A2 c2],none,0,0,[]⟩:=⟨_,rfl⟩;obtain ⟨W0,hW0⟩:=zB (w0.alloc (.cells #[.int .i64 2,.slice A 2 c,.slice SA 1 sc,.slice none 0 0] 44));obtain ⟨g,hg⟩:=zB w0.heap.size;have hB0:W0.heap[g]? = some (.cells #[.int .i64 2,.slice x.A 2 x.c,.slice x.SA 1 x.sc,.slice x.B 0 x.d] 44 (0,0)):=by rw [hW0,hg,hx];exact aA _ _
 have hgw:w.heap.size<=g:=by rw [hg];exact b0.size
 have hgW:g < W0.heap.size:=by rw [hg,hW0,aF];exact Nat.lt_succ_self _
 have bW:=aH hW0;have hbW:=bel b0 bW;have hEX:nG W0 [] x:=by
  have h1:=aX.below hR0 bW;have h2:=hS0.below bW;rw [hx];exact ⟨rfl,rfl,rfl,rfl,rfl,⟨h1,h2,⟨rfl,⟨rfl,λh=>absurd h (Nat.lt_irrefl 0)⟩,λy h=>(by cases h)⟩,(show (2:Nat)<=1000000000 by decide),λs hs=>by rw [dB.1 hs];exact (show (1:Nat)<=1000000000 by decide),(show (1:Nat)<=1000000000 by decide),(show (0:Nat)<=1000000000 by decide),λy h=>(by cases h)⟩,rfl,rfl,λs hs=>by rw [dB.1 hs];exact (show (1:Nat)<=1000000 by decide)⟩
 have aC:=zC (show ∀ w',af W0 w'->(λw':World=>w'.cell? ⟨g,0,none⟩=some (.int .i64 2)/\w'.cell? ⟨g,1,none⟩=some (.slice x.A 2 x.c)/\w'.cell? ⟨g,2,none⟩=some (.slice x.SA 1 x.sc)/\w'.cell? ⟨g,3,none⟩=some (.slice x.B 0 x.d)) w' from λw' h =>
  ⟨ah (au h hB0) 0 _ rfl,ah (au h hB0) 1 _ rfl,ah (au h hB0) 2 _ rfl,ah (au h hB0) 3 _ rfl⟩)
 have aY:=zC (show ∀ w',af W0 w'->nG w' [] x from λw' h=>hEX.below h);have hs6:K.uA (K.dL 2 K.mF [K.mY none 0] (([]:ag).map K.eX) (K.eX 6))=(some (([]:ag).map K.eX),false,[],0):=K.alr none 0;go_upto_region 2 with fail;have ex:(Value.agg #[.int .i64 2,.slice A 2 c,.slice SA 1 sc,.slice none 0 0])=.agg #[.int .i64 2,.slice x.A 2 x.c,.slice x.SA 1 x.sc,.slice x.B 0 x.d]:=by rw [hx]
 rw [<-hW0,<-hg,ex];clear hW0 hg ex hx hR0 hS0 bW;have fC:af W0 W0:=ai;have S0:=aC.out _ fC;have aQ:=aC.out _ fC.drew;have z0:W0.heap.size<=W0.heap.size:=zG _;have z0d:W0.heap.size<=W0.drew.heap.size:=zG _;have z0s:W0.heap.size<=W0.heap.size + 1:=Nat.le_succ _;go_cut [2,3,4] from 12 to 19 (λv2 v3 v4 wc=>∃ gA gB x' a,v2=.pointer (some ⟨gA,0,none⟩)/\v3=.pointer (some ⟨gB,0,none⟩)/\v4=.int .i64 0/\Done W0 [] [] 6 false [] 0 0 gA gB x' a wc)
 case first =>
  go_region_held3 (λw':World=>w'.cell? ⟨g,0,none⟩=some (.int .i64 2)/\w'.cell? ⟨g,1,none⟩=some (.slice x.A 2 x.c)/\w'.cell? ⟨g,2,none⟩=some (.slice x.SA 1 x.sc)/\w'.cell? ⟨g,3,none⟩=some (.slice x.B 0 x.d))
   (with_reducible first | exact aC.out _ fH | exact aC.out _ (aV fH _) | exact aC.out _ (aV (aV fH _) _) | exact aC.out _ iM | exact aC.out _ (aV iM _) | exact aC.out _ (aV (aV iM _) _) | exact aC.out _ fC | exact aC.out _ (aV fC _) | exact aC.out _ (aV (aV fC _) _) | exact aC.out _ (fC).drew | exact aC.out _ ((aV fC _)).drew | exact aC.out _ ((aV (aV fC _) _)).drew | exact aC.out _ fC.drew | exact aC.out _ (aV fC.drew _) | exact aC.out _ (aV (aV fC.drew _) _) | exact aC.out _ (mD fH (by assumption) _ _ _ _) | exact aC.out _ (mD (aV fH _) (by assumption) _ _ _ _) | exact aC.out _ (mD (aV (aV fH _) _) (by assumption) _ _ _ _) | exact aC.out _ (mD (mD fH (by assumption) _ _ _ _) (by assumption) _ _ _ _) | exact aC.out _ (mD (mD (aV fH _) (by assumption) _ _ _ _) (by assumption) _ _ _ _) | exact aC.out _ (mD (mD (aV (aV fH _) _) (by assumption) _ _ _ _) (by assumption) _ _ _ _) | fail)
   (first
   | (go_at_call 92;refine (I9 6 _).mono ?_;rintro e w1 ⟨rfl,b1⟩;have iM:af W0 w1:=(by (first | (with_reducible exact bel fC b1) | (with_reducible exact bel (aV fC _) b1) | (with_reducible exact bel (aV (aV fC _) _) b1) | (with_reducible exact bel (fC).drew b1) | (with_reducible exact bel ((aV fC _)).drew b1) | (with_reducible exact bel ((aV (aV fC _) _)).drew b1) | (with_reducible exact bel fC.drew b1) | (with_reducible exact bel (aV fC.drew _) b1) | (with_reducible exact bel (aV (aV fC.drew _) _) b1)));have VX:=iM.size;have z1s:=Nat.le_succ_of_le VX;(first | (with_reducible (have lA:=iy b1 (bU _ eY _ (aF _ _).symm);have hA:=au b1 (bU _ eY _ (aF _ _).symm))) | (with_reducible (have lA:=iy b1 (aA _ eY);have hA:=au b1 (aA _ eY))) | (with_reducible (have lA:=iy b1 (aO (aA _ eY) bV);have hA:=au b1 (aO (aA _ eY) bV))) | skip);(first | (with_reducible (have lB:=iy b1 (bU _ bV _ (aF _ _).symm);have hB:=au b1 (bU _ bV _ (aF _ _).symm))) | (with_reducible (have lB:=iy b1 (aA _ bV);have hB:=au b1 (aA _ bV))) | (with_reducible (have lB:=iy b1 (aO (aA _ bV) eY);have hB:=au b1 (aO (aA _ bV) eY))) | skip))
   | (go_at_call 33;(first | (with_reducible (refine (DV _ [] [] 6 false [] x (aY.out _ iM) (aW _) (n:=0) (n':=0) (bn:=0) rfl rfl rfl hs6).mono ?_;rintro e w2 ⟨⟨x',a,rfl,hT,lu,kR⟩,b2⟩;have fH:=bel iM b2;have uD:=fH.size;have Js:=Nat.le_succ_of_le uD;have ni:=size_le b2 iM)) | (with_reducible (refine (DV _ [] [] 6 false [] x (aY.out _ (aV iM _)) (aW _) (n:=0) (n':=0) (bn:=0) rfl rfl rfl hs6).mono ?_;rintro e w2 ⟨⟨x',a,rfl,hT,lu,kR⟩,b2⟩;have fH:=bel (aV iM _) b2;have uD:=fH.size;have Js:=Nat.le_succ_of_le uD;have ni:=size_le b2 (aV iM _))) | (with_reducible (refine (DV _ [] [] 6 false [] x (aY.out _ (aV (aV iM _) _)) (aW _) (n:=0) (n':=0) (bn:=0) rfl rfl rfl hs6).mono ?_;rintro e w2 ⟨⟨x',a,rfl,hT,lu,kR⟩,b2⟩;have fH:=bel (aV (aV iM _) _) b2;have uD:=fH.size;have Js:=Nat.le_succ_of_le uD;have ni:=size_le b2 (aV (aV iM _) _))));(first | (with_reducible (have lA:=iy b2 hA;have hA:=au b2 hA)) | (with_reducible (have lA:=iy b2 (aO hA _);have hA:=au b2 (aO hA _))) | (with_reducible (have lA:=iy b2 (bU _ eY _ (aF _ _).symm);have hA:=au b2 (bU _ eY _ (aF _ _).symm))) | (with_reducible (have lA:=iy b2 (aA _ eY);have hA:=au b2 (aA _ eY))) | (with_reducible (have lA:=iy b2 (aO (aA _ eY) bV);have hA:=au b2 (aO (aA _ eY) bV))) | skip);(first | (with_reducible (have lB:=iy b2 hB;have hB:=au b2 hB)) | (with_reducible (have lB:=iy b2 (aO hB _);have hB:=au b2 (aO hB _))) | (with_reducible (have lB:=iy b2 (bU _ bV _ (aF _ _).symm);have hB:=au b2 (bU _ bV _ (aF _ _).symm))) | (with_reducible (have lB:=iy b2 (aA _ bV);have hB:=au b2 (aA _ bV))) | (with_reducible (have lB:=iy b2 (aO (aA _ bV) eY);have hB:=au b2 (aO (aA _ bV) eY))) | skip);(first | (with_reducible (have fA:=b_ hA;have yA0:=ah hA 0 _ rfl;have yA1:=ah hA 1 _ rfl;have yA2:=ah hA 2 _ rfl;have yA3:=ah hA 3 _ rfl)) | skip);(first | (with_reducible (have fB:=b_ hB;have yB0:=ah hB 0 _ rfl;have yB1:=ah hB 1 _ rfl;have yB2:=ah hB 2 _ rfl;have yB3:=ah hB 3 _ rfl)) | skip);(first | (with_reducible (have fAB:=b_ (aO hA bV);have amJ:=ah (aO hA bV) 0 _ rfl;have amK:=ah (aO hA bV) 1 _ rfl;have amL:=ah (aO hA bV) 2 _ rfl;have amM:=ah (aO hA bV) 3 _ rfl)) | skip);(first | (with_reducible (have fBA:=b_ (aO hB eY);have amN:=ah (aO hB eY) 0 _ rfl;have amO:=ah (aO hB eY) 1 _ rfl;have amP:=ah (aO hB eY) 2 _ rfl;have amQ:=ah (aO hB eY) 3 _ rfl)) | skip);(first | (with_reducible (have fBN:=b_ (aO hB (.cells #[.int .i64 2,.slice x'.A 2 x'.c,.slice x'.SA 1 x'.sc,.slice x'.B 0 x'.d] 44));have amV:=ah (aO hB (.cells #[.int .i64 2,.slice x'.A 2 x'.c,.slice x'.SA 1 x'.sc,.slice x'.B 0 x'.d] 44)) 0 _ rfl;have amW:=ah (aO hB (.cells #[.int .i64 2,.slice x'.A 2 x'.c,.slice x'.SA 1 x'.sc,.slice x'.B 0 x'.d] 44)) 1 _ rfl;have amX:=ah (aO hB (.cells #[.int .i64 2,.slice x'.A 2 x'.c,.slice x'.SA 1 x'.sc,.slice x'.B 0 x'.d] 44)) 2 _ rfl;have amY:=ah (aO hB (.cells #[.int .i64 2,.slice x'.A 2 x'.c,.slice x'.SA 1 x'.sc,.slice x'.B 0 x'.d] 44)) 3 _ rfl)) | skip);(first | (with_reducible (have fBS:=b_ (lQ hA hB (.int .i64 2) (.slice x'.A 2 x'.c) (.slice x'.SA 1 x'.sc) (.slice x'.B 0 x'.d));have amZ:=ah (lQ hA hB (.int .i64 2) (.slice x'.A 2 x'.c) (.slice x'.SA 1 x'.sc) (.slice x'.B 0 x'.d)) 0 _ rfl;have am0:=ah (lQ hA hB (.int .i64 2) (.slice x'.A 2 x'.c) (.slice x'.SA 1 x'.sc) (.slice x'.B 0 x'.d)) 1 _ rfl;have am1:=ah (lQ hA hB (.int .i64 2) (.slice x'.A 2 x'.c) (.slice x'.SA 1 x'.sc) (.slice x'.B 0 x'.d)) 2 _ rfl;have am2:=ah (lQ hA hB (.int .i64 2) (.slice x'.A 2 x'.c) (.slice x'.SA 1 x'.sc) (.slice x'.B 0 x'.d)) 3 _ rfl)) | skip);(first | (with_reducible (have fBF:=b_ (lQ (aO hA bV) (aA _ bV) (.int .i64 2) (.slice x'.A 2 x'.c) (.slice x'.SA 1 x'.sc) (.slice x'.B 0 x'.d));have amR:=ah (lQ (aO hA bV) (aA _ bV) (.int .i64 2) (.slice x'.A 2 x'.c) (.slice x'.SA 1 x'.sc) (.slice x'.B 0 x'.d)) 0 _ rfl;have amS:=ah (lQ (aO hA bV) (aA _ bV) (.int .i64 2) (.slice x'.A 2 x'.c) (.slice x'.SA 1 x'.sc) (.slice x'.B 0 x'.d)) 1 _ rfl;have amT:=ah (lQ (aO hA bV) (aA _ bV) (.int .i64 2) (.slice x'.A 2 x'.c) (.slice x'.SA 1 x'.sc) (.slice x'.B 0 x'.d)) 2 _ rfl;have amU:=ah (lQ (aO hA bV) (aA _ bV) (.int .i64 2) (.slice x'.A 2 x'.c) (.slice x'.SA 1 x'.sc) (.slice x'.B 0 x'.d)) 3 _ rfl)) | skip))
   | fail)
  all_goals go_wp2_with fail
  all_goals go_meet
  all_goals (first
   | with_reducible exact ⟨_,_,x',a,rfl,rfl,rfl,Yt fH hT kR ni⟩
   | with_reducible exact ⟨_,_,x',a,rfl,rfl,rfl,done2 fH hT kR ni⟩
   | with_reducible exact ⟨_,_,x',a,rfl,rfl,rfl,Yu fH hT lu kR ni hA lA (by assumption) _ _ _ _⟩
   | with_reducible exact ⟨_,_,x',a,rfl,rfl,rfl,Yv fH hT lu kR ni hA lA (by assumption) hB lB (by assumption)⟩
   | with_reducible exact ⟨_,_,x',a,rfl,rfl,rfl,Yw fH hT lu kR ni hB lB (by assumption)⟩
   | trace_state)
 case rest =>
  obtain ⟨gA,gB,x',a,rfl,rfl,rfl,hD⟩:=hcut;have hbg:=bel fC hD.bel;have hBg:=au hD.bel hB0;obtain ⟨Ld,hDB,hT,hbc,hgA,hgB,kR⟩:=hD;have pq:=zC (show ∀ w',af wc w'->(λw':World=>w'.cell? ⟨g,0,none⟩=some (.int .i64 2)/\w'.cell? ⟨g,1,none⟩=some (.slice x.A 2 x.c)/\w'.cell? ⟨g,2,none⟩=some (.slice x.SA 1 x.sc)/\w'.cell? ⟨g,3,none⟩=some (.slice x.B 0 x.d)/\w'.cell? ⟨gB,0,none⟩=some (.bool false)/\w'.cell? ⟨gB,1,none⟩=some (.slice a.PA a.pn a.pc)/\w'.cell? ⟨gB,2,none⟩=some (.slice a.VA 0 a.vc)/\w'.cell? ⟨gB,3,none⟩=some (.slice a.RA a.rn a.rc)) w' from λw' h =>
   ⟨ah (au h hBg) 0 _ rfl,ah (au h hBg) 1 _ rfl,ah (au h hBg) 2 _ rfl,ah (au h hBg) 3 _ rfl,ah (au h hDB) 0 _ rfl,ah (au h hDB) 1 _ rfl,ah (au h hDB) 2 _ rfl,ah (au h hDB) 3 _ rfl⟩)
  have oD:af wc wc:=ai;have tZ:af wc wc.drew:=oD.drew;have S0:=pq.out _ oD;have aQ:=pq.out _ tZ;have MZ:=aY.out _ hbc;have DL:=zC (show ∀ w',af wc w'->nG w' [] x from λw' h=>MZ.below h);have HT3:=zC (show ∀ w',af wc w'->Told w' [] [] 6 false [] x' a from λw' h=>hT.below h);go_upto_region 3 with fail
  go_region_held3 (λw':World=>w'.cell? ⟨g,0,none⟩=some (.int .i64 2)/\w'.cell? ⟨g,1,none⟩=some (.slice x.A 2 x.c)/\w'.cell? ⟨g,2,none⟩=some (.slice x.SA 1 x.sc)/\w'.cell? ⟨g,3,none⟩=some (.slice x.B 0 x.d)/\w'.cell? ⟨gB,0,none⟩=some (.bool false)/\w'.cell? ⟨gB,1,none⟩=some (.slice a.PA a.pn a.pc)/\w'.cell? ⟨gB,2,none⟩=some (.slice a.VA 0 a.vc)/\w'.cell? ⟨gB,3,none⟩=some (.slice a.RA a.rn a.rc))
   (with_reducible first | exact S2 | exact S1 | exact aQ | exact S0 | fail)
   (first
    | (go_at_call 92;refine (I9 6 _).mono ?_;rintro e w4 ⟨rfl,b4⟩;have mg:=bel tZ b4;have S1:=pq.out _ mg)
    | (go_at_call 37;refine (QB _ [] [] 6 false [] x x' a (DL.out _ mg) (aW _) (HT3.out _ mg) (n:=0) (bn:=0) rfl rfl hs6).mono ?_;rintro e w5 ⟨rfl,b5⟩;have jv:=bel mg b5;have S2:=pq.out _ jv)
    | fail)
  have zu:af W0 w5:=bel hbc jv;have Y9:=au jv hBg;have hx5:=DL.out _ jv;clear S0 aQ S1 S2 pq DL HT3 oD tZ mg b4 b5 jv MZ hbg Ld hDB hT kR hBg hgA hgB;obtain ⟨yN,h5⟩:∃ ad:Addr,ad=⟨w5.heap.size,0,none⟩:=⟨_,rfl⟩;obtain ⟨Bc,h6⟩:∃ ad:Addr,ad=⟨w5.heap.size + 1 + 1 + 1,0,none⟩:=⟨_,rfl⟩;obtain ⟨l5,hl5⟩:∃ l5:List Obj,l5=[.cells #[.int .i64 2,.int .i64 1,.int .i64 3,.int .i64 2,.int .i64 1] 3,.cells #[.int .i64 0,.int .i64 1] 3,.cells #[.int .i64 0,.int .i64 1,.int .i64 2] 3,
   .cells #[.slice none 0 0,.slice none 0 0,.slice (some ⟨w5.heap.size + 1,0,none⟩) 2 2,.slice none 0 0,.slice (some ⟨w5.heap.size + 1 + 1,0,none⟩) 3 3] 48]:=⟨_,rfl⟩
  obtain ⟨W5,ug⟩:=zB (oH w5 l5);have Gs:=oH.below l5 w5;have hget:=oH.get l5 w5;rw [<-ug] at Gs hget;have g_:Ints W5 (some yN) 5 K.UD:=⟨rfl,by rw [h5];exact Rd.of_block (cs:=(intCells K.UD).toArray) (hget 0 _ (by rw [hl5];rfl)) 1 5 rfl⟩;have dS:∀ i,i < 5->∃ VA vc,W5.cell? (Bc.add i)=some (.slice VA (K.v_ i).length vc)/\Ints W5 VA (K.v_ i).length (K.v_ i)/\∀ ad,VA=some ad->W0.heap.size<=ad.block:=by
   have hs5:=zu.size;have e1:=hget 1 _ (by rw [hl5];rfl);have e2:=hget 2 _ (by rw [hl5];rfl);have e3:=hget 3 _ (by rw [hl5];rfl);intro i hi;match i,hi with
   | 0,_=>exact ⟨none,0,by rw [h6];exact ah e3 0 _ rfl,iQ _,λad e=>(by cases e)⟩
   | 1,_=>exact ⟨none,0,by rw [h6];exact ah e3 1 _ rfl,iQ _,λad e=>(by cases e)⟩
   | 2,_=>exact ⟨some ⟨w5.heap.size + 1,0,none⟩,2,by rw [h6];exact ah e3 2 _ rfl,⟨rfl,Rd.of_block (cs:=(intCells [0,1]).toArray) e1 1 2 rfl⟩,λad e=>by injection e with e;rw [<-e];exact Nat.le_succ_of_le hs5⟩
   | 3,_=>exact ⟨none,0,by rw [h6];exact ah e3 3 _ rfl,iQ _,λad e=>(by cases e)⟩
   | 4,_=>exact ⟨some ⟨w5.heap.size + 1 + 1,0,none⟩,3,by rw [h6];exact ah e3 4 _ rfl,⟨rfl,Rd.of_block (cs:=(intCells [0,1,2]).toArray) e2 1 3 rfl⟩,λad e=>by injection e with e;rw [<-e];exact Nat.le_succ_of_le (Nat.le_succ_of_le hs5)⟩
  have hz5:W0.heap.size<=yN.block:=by rw [h5];exact zu.size
  have Uw:W0.heap.size<=Bc.block:=by rw [h6];exact Nat.le_succ_of_le (Nat.le_succ_of_le (Nat.le_succ_of_le zu.size))
  have Y_:=au Gs Y9;have hx6:=hx5.below Gs;have Hu:=bel zu Gs;rw [hl5] at ug;simp only [oH] at ug;clear hl5 hget;go_wp2_with fail;rw [<-ug,<-h5,<-h6];clear ug h5 h6 Gs hx5 Y9 zu;have H6:=zC dS;clear dS;go_loopw [7] (λv7 wr=>∃ (i:Nat) (xi:Cs),v7=.int .i64 i/\i<=5/\wr.heap[g]? = some (.cells #[.int .i64 2,.slice xi.A 2 xi.c,.slice xi.SA 1 xi.sc,.slice xi.B (K.Ae i).length xi.d] 44 (0,0))/\nG wr (K.Ae i) xi/\kD W0.heap.size W5 wr/\af w wr) (λv7 _=>5 - (intOf v7).toNat)
  case atStart=>exact ⟨0,x,rfl,aW _,Y_,hx6,λ_ _ _ e=>e,bel hbW Hu⟩
  case round =>
   clear Y_ hx6;obtain ⟨i,xi,rfl,hi5,rC,ZP,hst,hbr⟩:=hrel;have hwz:=Hu.size;by_cases hlt:i < 5
   ·obtain ⟨k,hk5,Ub⟩:=K.als none 0 hlt;obtain ⟨ad',k',hA',hk',ck⟩:=(Ints.stays g_ hst (λ_ ad e=>by injection e with e;rw [<-e];exact hz5)).at_ hlt;injection hA' with hA';subst hA';obtain rfl:k=k':=by rw [hk5] at hk';injection hk' with h
    obtain ⟨VA,vc,c6,ZL,ZN⟩:=H6.out i hlt;have hL3:(K.Ae i).length<=3:=by
     match i,hlt with
     | 0,_=>decide
     | 1,_=>decide
     | 2,_=>decide
     | 3,_=>decide
     | 4,_=>decide
    have hW3:(K.v_ i).length<=1000000000:=by
     match i,hlt with
     | 0,_=>decide
     | 1,_=>decide
     | 2,_=>decide
     | 3,_=>decide
     | 4,_=>decide
    have KJ:wr.cell? (Bc.add i)=some (.slice VA (K.v_ i).length vc):=by
     have ahC:=cell_lt c6;obtain ⟨o,ho⟩:∃ o,W5.heap[(Bc.add i).block]? = some o:=⟨_,Array.getElem?_eq_getElem ahC⟩;refine (lg ?_).trans c6;rw [ho];exact hst _ _ (by rw [add_block];exact Uw) ho
    have R_:Ints wr VA (K.v_ i).length (K.v_ i):=ZL.stays hst (λ_=>ZN);obtain ⟨L,hL⟩:=zB (K.Ae i);obtain ⟨L2,hL2⟩:=zB (K.Ae (i + 1));obtain ⟨bl,hbl⟩:=zB (K.v_ i);obtain ⟨acc,hacc⟩:=zB bl.isEmpty;rw [<-hbl,<-hacc,<-hL,<-hL2] at Ub;rw [<-hbl] at hW3 KJ R_;rw [<-hL] at rC ZP hL3;obtain ⟨n,hn⟩:=zB L.length;obtain ⟨n2,hn2⟩:=zB L2.length;obtain ⟨bn,hbn⟩:=zB bl.length;rw [<-hn] at rC;rw [<-hbn] at KJ R_;have vC:bn<=1000000000:=by rw [hbn];exact hW3
    have HN:=zC hn.symm;have FK:=zC hn2.symm;have jP:=zC hbn.symm;have HL2:=zC hL2;have FV:=zC Ub;have Fh:=zC (show (acc=true/\bn=0)\/(acc=false/\0 < bn) by
     rw [hacc,hbn];cases bl with
     | nil=>exact .inl ⟨rfl,rfl⟩
     | cons y l=>exact .inr ⟨rfl,Nat.succ_pos _⟩)
    clear hn hn2 hbn hacc hbl hL hL2 Ub hk5 hk' c6 ZL ZN hW3;have hgr:=wY rC;have zo:W0.heap.size<=wr.heap.size:=by
     have h1:=hst _ _ hz5 (Array.getElem?_eq_getElem (show yN.block < W5.heap.size from by
      have h2:=(g_.at_ (k:=0) (by decide));obtain ⟨ad,k0,e,-,h3⟩:=h2;injection e with e;have:=cell_lt h3;rw [add_block,<-e] at this;exact this))
     have:=wY h1;omega
    have k0:(0:Int)<=(i:Int):=by omega
    have k1:(i:Int) < 5:=by omega
    have aC:=zC (show ∀ w',af wr w'->(λw':World=>w'.cell? ⟨g,0,none⟩=some (.int .i64 2)/\w'.cell? ⟨g,1,none⟩=some (.slice xi.A 2 xi.c)/\w'.cell? ⟨g,2,none⟩=some (.slice xi.SA 1 xi.sc)/\w'.cell? ⟨g,3,none⟩=some (.slice xi.B n xi.d)/\w'.cell? (yN.add i)=some (.int .i64 k)) w' from λw' h =>
     ⟨ah (au h rC) 0 _ rfl,ah (au h rC) 1 _ rfl,ah (au h rC) 2 _ rfl,ah (au h rC) 3 _ rfl,(h.cell (cell_lt ck)).trans ck⟩)
    have aY:=zC (show ∀ w',af wr w'->nG w' L xi from λw' h=>ZP.below h);go_upto_region 10 with fail;have fC:af wr wr:=ai;have S0:=aC.out _ fC;have aQ:=aC.out _ fC.drew;have z0:wr.heap.size<=wr.heap.size:=zG _;have z0d:wr.heap.size<=wr.drew.heap.size:=zG _;have z0s:wr.heap.size<=wr.heap.size + 1:=Nat.le_succ _;go_cut [8,9,10] from 48 to 59 (λv8 v9 v10 wc=>∃ gA gB x' a,v8=.pointer (some ⟨gA,0,none⟩)/\v9=.pointer (some ⟨gB,0,none⟩)/\v10=.int .i64 0/\Done wr L L2 k acc bl n2 bn gA gB x' a wc)
    case first =>
     go_region_held3 (λw':World=>w'.cell? ⟨g,0,none⟩=some (.int .i64 2)/\w'.cell? ⟨g,1,none⟩=some (.slice xi.A 2 xi.c)/\w'.cell? ⟨g,2,none⟩=some (.slice xi.SA 1 xi.sc)/\w'.cell? ⟨g,3,none⟩=some (.slice xi.B n xi.d)/\w'.cell? (yN.add i)=some (.int .i64 k))
      (with_reducible first | exact aC.out _ fH | exact aC.out _ (aV fH _) | exact aC.out _ (aV (aV fH _) _) | exact aC.out _ iM | exact aC.out _ (aV iM _) | exact aC.out _ (aV (aV iM _) _) | exact aC.out _ fC | exact aC.out _ (aV fC _) | exact aC.out _ (aV (aV fC _) _) | exact aC.out _ (fC).drew | exact aC.out _ ((aV fC _)).drew | exact aC.out _ ((aV (aV fC _) _)).drew | exact aC.out _ fC.drew | exact aC.out _ (aV fC.drew _) | exact aC.out _ (aV (aV fC.drew _) _) | exact aC.out _ (mD fH (by assumption) _ _ _ _) | exact aC.out _ (mD (aV fH _) (by assumption) _ _ _ _) | exact aC.out _ (mD (aV (aV fH _) _) (by assumption) _ _ _ _) | exact aC.out _ (mD (mD fH (by assumption) _ _ _ _) (by assumption) _ _ _ _) | exact aC.out _ (mD (mD (aV fH _) (by assumption) _ _ _ _) (by assumption) _ _ _ _) | exact aC.out _ (mD (mD (aV (aV fH _) _) (by assumption) _ _ _ _) (by assumption) _ _ _ _) | fail)
      (first
      | (go_at_call 92;refine (I9 k _).mono ?_;rintro e w1 ⟨rfl,b1⟩;have iM:af wr w1:=(by (first | (with_reducible exact bel fC b1) | (with_reducible exact bel (aV fC _) b1) | (with_reducible exact bel (aV (aV fC _) _) b1) | (with_reducible exact bel (fC).drew b1) | (with_reducible exact bel ((aV fC _)).drew b1) | (with_reducible exact bel ((aV (aV fC _) _)).drew b1) | (with_reducible exact bel fC.drew b1) | (with_reducible exact bel (aV fC.drew _) b1) | (with_reducible exact bel (aV (aV fC.drew _) _) b1)));have VX:=iM.size;have z1s:=Nat.le_succ_of_le VX;(first | (with_reducible (have lA:=iy b1 (bU _ eY _ (aF _ _).symm);have hA:=au b1 (bU _ eY _ (aF _ _).symm))) | (with_reducible (have lA:=iy b1 (aA _ eY);have hA:=au b1 (aA _ eY))) | (with_reducible (have lA:=iy b1 (aO (aA _ eY) bV);have hA:=au b1 (aO (aA _ eY) bV))) | skip);(first | (with_reducible (have lB:=iy b1 (bU _ bV _ (aF _ _).symm);have hB:=au b1 (bU _ bV _ (aF _ _).symm))) | (with_reducible (have lB:=iy b1 (aA _ bV);have hB:=au b1 (aA _ bV))) | (with_reducible (have lB:=iy b1 (aO (aA _ bV) eY);have hB:=au b1 (aO (aA _ bV) eY))) | skip))
      | (go_at_call 33;(first | (with_reducible (refine (DV _ L L2 k acc bl xi (aY.out _ iM) hL3 (n:=n) (n':=n2) (bn:=bn) HN.out FK.out jP.out FV.out).mono ?_;rintro e w2 ⟨⟨x',a,rfl,hT,lu,kR⟩,b2⟩;have fH:=bel iM b2;have uD:=fH.size;have Js:=Nat.le_succ_of_le uD;have ni:=size_le b2 iM)) | (with_reducible (refine (DV _ L L2 k acc bl xi (aY.out _ (aV iM _)) hL3 (n:=n) (n':=n2) (bn:=bn) HN.out FK.out jP.out FV.out).mono ?_;rintro e w2 ⟨⟨x',a,rfl,hT,lu,kR⟩,b2⟩;have fH:=bel (aV iM _) b2;have uD:=fH.size;have Js:=Nat.le_succ_of_le uD;have ni:=size_le b2 (aV iM _))) | (with_reducible (refine (DV _ L L2 k acc bl xi (aY.out _ (aV (aV iM _) _)) hL3 (n:=n) (n':=n2) (bn:=bn) HN.out FK.out jP.out FV.out).mono ?_;rintro e w2 ⟨⟨x',a,rfl,hT,lu,kR⟩,b2⟩;have fH:=bel (aV (aV iM _) _) b2;have uD:=fH.size;have Js:=Nat.le_succ_of_le uD;have ni:=size_le b2 (aV (aV iM _) _))));(first | (with_reducible (have lA:=iy b2 hA;have hA:=au b2 hA)) | (with_reducible (have lA:=iy b2 (aO hA _);have hA:=au b2 (aO hA _))) | (with_reducible (have lA:=iy b2 (bU _ eY _ (aF _ _).symm);have hA:=au b2 (bU _ eY _ (aF _ _).symm))) | (with_reducible (have lA:=iy b2 (aA _ eY);have hA:=au b2 (aA _ eY))) | (with_reducible (have lA:=iy b2 (aO (aA _ eY) bV);have hA:=au b2 (aO (aA _ eY) bV))) | skip);(first | (with_reducible (have lB:=iy b2 hB;have hB:=au b2 hB)) | (with_reducible (have lB:=iy b2 (aO hB _);have hB:=au b2 (aO hB _))) | (with_reducible (have lB:=iy b2 (bU _ bV _ (aF _ _).symm);have hB:=au b2 (bU _ bV _ (aF _ _).symm))) | (with_reducible (have lB:=iy b2 (aA _ bV);have hB:=au b2 (aA _ bV))) | (with_reducible (have lB:=iy b2 (aO (aA _ bV) eY);have hB:=au b2 (aO (aA _ bV) eY))) | skip);(first | (with_reducible (have fA:=b_ hA;have yA0:=ah hA 0 _ rfl;have yA1:=ah hA 1 _ rfl;have yA2:=ah hA 2 _ rfl;have yA3:=ah hA 3 _ rfl)) | skip);(first | (with_reducible (have fB:=b_ hB;have yB0:=ah hB 0 _ rfl;have yB1:=ah hB 1 _ rfl;have yB2:=ah hB 2 _ rfl;have yB3:=ah hB 3 _ rfl)) | skip);(first | (with_reducible (have fAB:=b_ (aO hA bV);have amJ:=ah (aO hA bV) 0 _ rfl;have amK:=ah (aO hA bV) 1 _ rfl;have amL:=ah (aO hA bV) 2 _ rfl;have amM:=ah (aO hA bV) 3 _ rfl)) | skip);(first | (with_reducible (have fBA:=b_ (aO hB eY);have amN:=ah (aO hB eY) 0 _ rfl;have amO:=ah (aO hB eY) 1 _ rfl;have amP:=ah (aO hB eY) 2 _ rfl;have amQ:=ah (aO hB eY) 3 _ rfl)) | skip);(first | (with_reducible (have fBN:=b_ (aO hB (.cells #[.int .i64 2,.slice x'.A 2 x'.c,.slice x'.SA 1 x'.sc,.slice x'.B n2 x'.d] 44));have amV:=ah (aO hB (.cells #[.int .i64 2,.slice x'.A 2 x'.c,.slice x'.SA 1 x'.sc,.slice x'.B n2 x'.d] 44)) 0 _ rfl;have amW:=ah (aO hB (.cells #[.int .i64 2,.slice x'.A 2 x'.c,.slice x'.SA 1 x'.sc,.slice x'.B n2 x'.d] 44)) 1 _ rfl;have amX:=ah (aO hB (.cells #[.int .i64 2,.slice x'.A 2 x'.c,.slice x'.SA 1 x'.sc,.slice x'.B n2 x'.d] 44)) 2 _ rfl;have amY:=ah (aO hB (.cells #[.int .i64 2,.slice x'.A 2 x'.c,.slice x'.SA 1 x'.sc,.slice x'.B n2 x'.d] 44)) 3 _ rfl)) | skip);(first | (with_reducible (have fBS:=b_ (lQ hA hB (.int .i64 2) (.slice x'.A 2 x'.c) (.slice x'.SA 1 x'.sc) (.slice x'.B n2 x'.d));have amZ:=ah (lQ hA hB (.int .i64 2) (.slice x'.A 2 x'.c) (.slice x'.SA 1 x'.sc) (.slice x'.B n2 x'.d)) 0 _ rfl;have am0:=ah (lQ hA hB (.int .i64 2) (.slice x'.A 2 x'.c) (.slice x'.SA 1 x'.sc) (.slice x'.B n2 x'.d)) 1 _ rfl;have am1:=ah (lQ hA hB (.int .i64 2) (.slice x'.A 2 x'.c) (.slice x'.SA 1 x'.sc) (.slice x'.B n2 x'.d)) 2 _ rfl;have am2:=ah (lQ hA hB (.int .i64 2) (.slice x'.A 2 x'.c) (.slice x'.SA 1 x'.sc) (.slice x'.B n2 x'.d)) 3 _ rfl)) | skip);(first | (with_reducible (have fBF:=b_ (lQ (aO hA bV) (aA _ bV) (.int .i64 2) (.slice x'.A 2 x'.c) (.slice x'.SA 1 x'.sc) (.slice x'.B n2 x'.d));have amR:=ah (lQ (aO hA bV) (aA _ bV) (.int .i64 2) (.slice x'.A 2 x'.c) (.slice x'.SA 1 x'.sc) (.slice x'.B n2 x'.d)) 0 _ rfl;have amS:=ah (lQ (aO hA bV) (aA _ bV) (.int .i64 2) (.slice x'.A 2 x'.c) (.slice x'.SA 1 x'.sc) (.slice x'.B n2 x'.d)) 1 _ rfl;have amT:=ah (lQ (aO hA bV) (aA _ bV) (.int .i64 2) (.slice x'.A 2 x'.c) (.slice x'.SA 1 x'.sc) (.slice x'.B n2 x'.d)) 2 _ rfl;have amU:=ah (lQ (aO hA bV) (aA _ bV) (.int .i64 2) (.slice x'.A 2 x'.c) (.slice x'.SA 1 x'.sc) (.slice x'.B n2 x'.d)) 3 _ rfl)) | skip))
      | fail)
     all_goals go_wp2_with fail
     all_goals go_meet
     all_goals (first
      | with_reducible exact ⟨_,_,x',a,rfl,rfl,rfl,Yt fH hT kR ni⟩
      | with_reducible exact ⟨_,_,x',a,rfl,rfl,rfl,done2 fH hT kR ni⟩
      | with_reducible exact ⟨_,_,x',a,rfl,rfl,rfl,Yu fH hT lu kR ni hA lA (by assumption) _ _ _ _⟩
      | with_reducible exact ⟨_,_,x',a,rfl,rfl,rfl,Yv fH hT lu kR ni hA lA (by assumption) hB lB (by assumption)⟩
      | with_reducible exact ⟨_,_,x',a,rfl,rfl,rfl,Yw fH hT lu kR ni hB lB (by assumption)⟩
      | trace_state)
    case rest =>
     obtain ⟨gA,gB,x',a,rfl,rfl,rfl,hD⟩:=hcut;have hBg:=au hD.bel rC;obtain ⟨Ld,hDB,hT,hbc,hgA,hgB,kR⟩:=hD;have aag:=(hbc.cell (cell_lt ck)).trans ck;have aae:=(hbc.cell (cell_lt KJ)).trans KJ;have hVc:=R_.below hbc;have pq:=zC (show ∀ w',af wc w'->(λw':World=>w'.cell? ⟨g,0,none⟩=some (.int .i64 2)/\w'.cell? ⟨g,1,none⟩=some (.slice xi.A 2 xi.c)/\w'.cell? ⟨g,2,none⟩=some (.slice xi.SA 1 xi.sc)/\w'.cell? ⟨g,3,none⟩=some (.slice xi.B n xi.d)/\w'.cell? ⟨gB,0,none⟩=some (.bool acc)/\w'.cell? ⟨gB,1,none⟩=some (.slice a.PA a.pn a.pc)/\w'.cell? ⟨gB,2,none⟩=some (.slice a.VA bn a.vc)/\w'.cell? ⟨gB,3,none⟩=some (.slice a.RA a.rn a.rc)/\w'.cell? (yN.add i)=some (.int .i64 k)/\w'.cell? (Bc.add i)=some (.slice VA bn vc)) w' from λw' h =>
      ⟨ah (au h hBg) 0 _ rfl,ah (au h hBg) 1 _ rfl,ah (au h hBg) 2 _ rfl,ah (au h hBg) 3 _ rfl,ah (au h hDB) 0 _ rfl,ah (au h hDB) 1 _ rfl,ah (au h hDB) 2 _ rfl,ah (au h hDB) 3 _ rfl,(h.cell (cell_lt aag)).trans aag,(h.cell (cell_lt aae)).trans aae⟩)
     have oD:af wc wc:=ai;have tZ:af wc wc.drew:=oD.drew;have S0:=pq.out _ oD;have aQ:=pq.out _ tZ;have MZ:=aY.out _ hbc;have DL:=zC (show ∀ w',af wc w'->nG w' L xi from λw' h=>MZ.below h);have HT3:=zC (show ∀ w',af wc w'->Told w' L L2 k acc bl x' a from λw' h=>hT.below h);have WY:=zC (show ∀ w',af wc w'->Ints w' VA bn bl from λw' h=>hVc.below h);have V7:=zC (show ∀ w',af wc w'->Ints w' a.VA bn bl from λw' h=>by
      have h1:=(hT.below h).av.v;rw [hT.v,hT.vn,jP.out] at h1;exact h1)
     have hsd:(decide (bl=bl))=true:=zH rfl;rcases Fh.out with ⟨rfl,rfl⟩ | ⟨rfl,hb0⟩
     ·clear Fh;go_upto_region 11 with fail
      go_region_held3 (λw':World=>w'.cell? ⟨g,0,none⟩=some (.int .i64 2)/\w'.cell? ⟨g,1,none⟩=some (.slice xi.A 2 xi.c)/\w'.cell? ⟨g,2,none⟩=some (.slice xi.SA 1 xi.sc)/\w'.cell? ⟨g,3,none⟩=some (.slice xi.B n xi.d)/\w'.cell? ⟨gB,0,none⟩=some (.bool true)/\w'.cell? ⟨gB,1,none⟩=some (.slice a.PA a.pn a.pc)/\w'.cell? ⟨gB,2,none⟩=some (.slice a.VA 0 a.vc)/\w'.cell? ⟨gB,3,none⟩=some (.slice a.RA a.rn a.rc)/\w'.cell? (yN.add i)=some (.int .i64 k)/\w'.cell? (Bc.add i)=some (.slice VA 0 vc))
       (with_reducible first | exact S3 | exact S2 | exact S1 | exact aQ | exact S0 | fail)
       (first
        | (go_at_call 93;refine (EU a.VA VA 0 0 a.vc vc bl bl _ (V7.out _ tZ) (WY.out _ tZ) vC vC).mono ?_;rintro e w3 ⟨rfl,b3⟩;rw [hsd];have sW:=bel tZ b3;have S3:=pq.out _ sW)
        | (go_at_call 92;refine (I9 k _).mono ?_;rintro e w4 ⟨rfl,b4⟩;have mg:=bel sW b4;have S1:=pq.out _ mg)
        | (go_at_call 37;refine (QB _ L L2 k true bl xi x' a (DL.out _ mg) hL3 (HT3.out _ mg) (n:=n) (bn:=0) HN.out jP.out FV.out).mono ?_;rintro e w5 ⟨rfl,b5⟩;have jv:=bel mg b5;have S2:=pq.out _ jv)
        | fail)
      have wV:=bel hbc jv;have ou:=au jv hBg;have ry:=au jv Ld;have f0:=b_ ou;obtain ⟨g0,g1,g2,g3⟩:=gX ou;obtain ⟨y0,y1,y2,y3⟩:=gX ry;have hx5:=(HT3.out _ jv).bk;clear S0 aQ S1 S2 S3;go_wp2_with fail;go_roundw
      case rel =>
       refine ⟨i + 1,x',by go_num,hlt,?_,?_,?_,?_⟩
       ·rw [<-HL2.out,FK.out];exact dW.at_ ou _ _ _ _
       ·rw [<-HL2.out];exact hx5.stays kR (dW.stays (kD.below _ ai) (.inl hgr) _ _ _ _)
       ·exact dW.stays (hst.trans (kD.below _ wV)) (.inl hgW) _ _ _ _
       ·exact dW.below (bel hbr wV) hgw _ _ _ _
      case measure=>simp [intOf];omega
     ·clear Fh;have e1:((bn:Int) == 0)=false:=by simp;omega
      have e2:decide ((bn:Int)=0)=false:=by simp;omega
      have e3:decide (bn=0)=false:=by simp;omega
      have e4:(bn == 0)=false:=by simp;omega
      go_upto_region 11 with fail
      go_region_held3 (λw':World=>w'.cell? ⟨g,0,none⟩=some (.int .i64 2)/\w'.cell? ⟨g,1,none⟩=some (.slice xi.A 2 xi.c)/\w'.cell? ⟨g,2,none⟩=some (.slice xi.SA 1 xi.sc)/\w'.cell? ⟨g,3,none⟩=some (.slice xi.B n xi.d)/\w'.cell? ⟨gB,0,none⟩=some (.bool false)/\w'.cell? ⟨gB,1,none⟩=some (.slice a.PA a.pn a.pc)/\w'.cell? ⟨gB,2,none⟩=some (.slice a.VA bn a.vc)/\w'.cell? ⟨gB,3,none⟩=some (.slice a.RA a.rn a.rc)/\w'.cell? (yN.add i)=some (.int .i64 k)/\w'.cell? (Bc.add i)=some (.slice VA bn vc))
       (with_reducible first | exact S3 | exact S2 | exact S1 | exact aQ | exact S0 | fail)
       (first
        | (go_at_call 93;refine (EU a.VA VA bn bn a.vc vc bl bl _ (V7.out _ tZ) (WY.out _ tZ) vC vC).mono ?_;rintro e w3 ⟨rfl,b3⟩;rw [hsd];have sW:=bel tZ b3;have S3:=pq.out _ sW)
        | (go_at_call 92;refine (I9 k _).mono ?_;rintro e w4 ⟨rfl,b4⟩;have mg:=bel sW b4;have S1:=pq.out _ mg)
        | (go_at_call 37;refine (QB _ L L2 k false bl xi x' a (DL.out _ mg) hL3 (HT3.out _ mg) (n:=n) (bn:=bn) HN.out jP.out FV.out).mono ?_;rintro e w5 ⟨rfl,b5⟩;have jv:=bel mg b5;have S2:=pq.out _ jv)
        | fail)
      have wV:=bel hbc jv;have ou:=au jv hBg;have ry:=au jv Ld;have f0:=b_ ou;obtain ⟨g0,g1,g2,g3⟩:=gX ou;obtain ⟨y0,y1,y2,y3⟩:=gX ry;have hx5:=(HT3.out _ jv).bk;clear S0 aQ S1 S2 S3;go_wp2_with fail;go_roundw
      case rel =>
       refine ⟨i + 1,x',by go_num,hlt,?_,?_,?_,?_⟩
       ·rw [<-HL2.out,FK.out];exact dW.at_ ou _ _ _ _
       ·rw [<-HL2.out];exact hx5.stays kR (dW.stays (kD.below _ ai) (.inl hgr) _ _ _ _)
       ·exact dW.stays (hst.trans (kD.below _ wV)) (.inl hgW) _ _ _ _
       ·exact dW.below (bel hbr wV) hgw _ _ _ _
      case measure=>simp [intOf];omega
   ·obtain rfl:i=5:=by omega
    have hl5:(K.Ae 5).length=3:=rfl;rw [hl5] at rC;obtain ⟨y0,y1,y2,y3⟩:=gX rC;clear hl5;go_wp2_with fail;go_ret;exact ⟨rfl,hbr⟩
theorem ae4 (x:Cs) (q:Q) (w:World) (hx:lI w x q) (hf:Dw x q) :
  ay 33 #[lm x,iL q] w λe w'=>(∃ (x':Cs) (a:AV) (acc:Bool) (er:Int),e=.returned (.tuple #[.agg #[.int .i64 x'.nd,.slice x'.A x'.n x'.c,.slice x'.SA x'.sn x'.sc,.slice x'.B x'.m x'.d],.agg #[.bool acc,.slice a.PA a.pn a.pc,.slice a.VA a.vn a.vc,.slice a.RA a.rn a.rc],.int .i64 er])/\jZ w' a/\oI a/\acc=a.acc/\er=(K.dL x.nd x.l x.ss x.r q).2.2/\a.an=(K.dL x.nd x.l x.ss x.r q).2.1/\Aj w' x x' (K.dL x.nd x.l x.ss x.r q).1)/\af w w':=by
 refine (XH x q w hx (by have:=hf.n;omega) (by have:=hf.sn;omega) (λs hs=>by have:=hf.s s hs;omega)).mono ?_;rintro e w' ⟨⟨x',a,rfl,h1,h2,h3,h4,-,-⟩,hb⟩;exact ⟨⟨x',a,a.acc,_,rfl,h1,h2,rfl,rfl,h3,h4⟩,hb⟩
theorem afM (x:Cs) (q:Q) (a:AV) (acc z:Bool) (w:World) (hx:lI w x q) (ha:jZ w a) (hao:oI a) (hac:acc=a.acc) (hz:K.kQ x.nd x.l x.ss x.r q a.an=z) :
  ay 37 #[lm x,iL q,pM a acc] w (bg w z):=by
 subst hac hz;exact ack x q a w hx ha hao
theorem aki (x:Cs) (q:Q) (w:World) (hx:lI w x q) (hf:Dw x q) :
  ay 34 #[lm x,iL q] w λe w'=>(∃ (x':Cs) (a:AV) (acc:Bool) (er:Int),e=.returned (.tuple #[.agg #[.int .i64 x'.nd,.slice x'.A x'.n x'.c,.slice x'.SA x'.sn x'.sc,.slice x'.B x'.m x'.d],.agg #[.bool acc,.slice a.PA a.pn a.pc,.slice a.VA a.vn a.vc,.slice a.RA a.rn a.rc],.int .i64 er])/\jZ w' a/\oI a/\acc=a.acc/\er=(K.dL x.nd x.l x.ss x.r q).2.2/\a.an=(K.dL x.nd x.l x.ss x.r q).2.1/\DN w' x x' (K.dL x.nd x.l x.ss x.r q).1)/\af w w':=by
 refine (akh x q w hx (λh=>by have:=hf.m3 h;omega)).mono ?_;rintro e w' ⟨⟨x',a,rfl,h1,h2,h3,h4⟩,hb⟩;exact ⟨⟨x',a,a.acc,_,rfl,h1,h2,rfl,rfl,h3,h4⟩,hb⟩
theorem Aj.below2 {w w':World} {x x':Cs} {o:Option (List Q)} (h:Aj w x x' o) (hb:af w w'):Aj w' x x' o:=by
 cases o with
 | none=>exact h
 | some r =>
  obtain ⟨h1,h2,h3,h4,h5,h6,h7⟩:=h;exact ⟨h1,h2,h3,h4,h5.below hb,h6,h7⟩
theorem DN.below2 {w w':World} {x x':Cs} {o:Option (List Q)} (h:DN w x x' o) (hb:af w w'):DN w' x x' o:=by
 cases o with
 | none=>exact h
 | some r =>
  obtain ⟨B,m,d,L,e,hL,hb2⟩:=h;exact ⟨B,m,d,L,e,hL.below hb,hb2⟩
theorem alc (w:World) (x x' x2:Cs) (o:Option (List Q)) (hx:eu w x) (h1:Aj w x x' o) (h2:DN w x x2 o) :
  ay 35 #[lm x',lm x2] w (bg w true):=by
 cases o with
 | none =>
  have e1:x'=Cs.zero:=h1;have e2:x2=Cs.zero:=h2;subst e1 e2;exact adD 0 none 0 0 [] none 0 0 [] none 0 0 [] none 0 none 0 [] none 0 [] w ⟨rfl,rfl,λh=>absurd h (Nat.lt_irrefl 0)⟩ ⟨rfl,rfl,λh=>absurd h (Nat.lt_irrefl 0)⟩ ⟨⟨rfl,rfl,λh=>absurd h (Nat.lt_irrefl 0)⟩,λ_ h=>(by cases h)⟩ ⟨⟨rfl,rfl,λh=>absurd h (Nat.lt_irrefl 0)⟩,λ_ h=>(by cases h)⟩ ⟨rfl,⟨rfl,λh=>absurd h (Nat.lt_irrefl 0)⟩,λ_ h=>(by cases h)⟩ ⟨rfl,⟨rfl,λh=>absurd h (Nat.lt_irrefl 0)⟩,λ_ h=>(by cases h)⟩ rfl rfl (aW _) (aW _) (aW _) (λ_ h=>(by cases h)) (λ_ h=>(by cases h))
 | some r =>
  obtain ⟨e1,e2,e3,e4,e5,e6,e7⟩:=h1;obtain ⟨B,m,d,L,rfl,hL,hb⟩:=h2;have hm:x'.m=m:=by
   have g1:=congrArg List.length e7;have g2:=congrArg List.length hb;rw [bu,bu] at g1 g2;rw [e5.bf.1,hL.1,g1,g2]
  have k1:=e5.net;have k2:=e5.shifts;have k3:=e5.bf;rw [e2,e3] at k1;rw [e4] at k2;rw [hm] at k3;have hc:=adD x.nd x'.A x.n x'.c x.l x'.SA x.sn x'.sc x'.ss x'.B m x'.d x'.r x.A x.c x.SA x.sc x.ss B d L w k1 hx.net k2 hx.shifts k3 hL e6 (e7.trans hb.symm) hx.b1 hx.b3 (by rw [<-hm];exact e5.b4) e5.b2 e5.b5;unfold lm;rw [e1,e3,e4,hm];exact hc
theorem akm (x:Cs) (q:Q) (a:AV) (z:Bool) (w:World) (hx:lI w x q) (ha:jZ w a) (hao:oI a) (rO:∀ y ∈ a.ts,y.n<=y.c) (hz:K.kQ x.nd x.l x.ss x.r q a.an=z) :
  ay 38 #[lm x,iL q,pM a a.acc] w (bg w z):=by
 subst hz;exact akl x q a w hx ha hao rO
theorem ala (a b:AV) (ca cb:Bool) (w:World) (ha:jZ w a) (hb:jZ w b) (oa:oI a) (ob:oI b) (hca:ca=a.acc) (hcb:cb=b.acc) (h:a.an=b.an) :
  ay 36 #[pM a ca,pM b cb] w (bg w true):=by
 subst hca hcb;exact ak' a b w ha hb oa ob h
theorem anM (x:Cs) (q:Q) (a0:AV) (w:World) (hN:gq w x.A x.n x.l) (hS:Shifts w x.SA x.sn x.ss) (hQ:dm w x.B x.m x.r) (hX:dA w q.A q.n q.l) (hA:jZ w a0) (hc:∀ y ∈ a0.bl,y.vn<=y.vc) (rO:∀ y ∈ a0.ts,y.n<=y.c) (hmB:x.m * 72<=140737488351232) :
  ay 4 #[lm x,iL q,pM a0 a0.acc] w (bg w true):=by
 obtain ⟨w1,hw1⟩:=zB (w.alloc (.cells #[.int .i64 x.nd,.slice x.A x.n x.c,.slice x.SA x.sn x.sc,.slice x.B x.m x.d] 44));have b1:=aH hw1;have z1:w1.heap.size=w.heap.size + 1:=by rw [hw1];exact aF _ _
 have hN1:iY w1 w.heap.size x:=by rw [hw1];exact iY.new _ _
 obtain ⟨w2,hw2⟩:=zB (w1.alloc (.cells #[.int .i64 q.node,.int .i64 q.room,.int .i64 q.a_,.int .i64 q.service,.int .i64 q.aI,.int .i64 q.aP,.slice q.A q.n q.c] 47));have b2:=aH hw2;have z2:w2.heap.size=w.heap.size + 1 + 1:=by rw [hw2,aF,z1]
 have hB2:dV w2 (w.heap.size + 1) q:=by rw [hw2,<-z1];exact dV.new _ _
 obtain ⟨w3,hw3⟩:=zB (w2.alloc (.cells #[.bool a0.acc,.slice a0.PA a0.pn a0.pc,.slice a0.VA a0.vn a0.vc,.slice a0.RA a0.rn a0.rc] 50));have b3:=aH hw3;have Za:w3.heap[w.heap.size + 1 + 1]? = some (.cells #[.bool a0.acc,.slice a0.PA a0.pn a0.pc,.slice a0.VA a0.vn a0.vc,.slice a0.RA a0.rn a0.rc] 50 (0,0)):=by rw [hw3,<-z2];exact aA _ _
 have hN3:=(hN1.below b2).below b3;have hB3:=hB2.below b3;have hb3:=bel (bel b1 b2) b3;have aC:=zC (show ∀ w',af w3 w'->(A_ w x q a0 a0.acc) w' from λw' h=>by
  obtain ⟨q0,q1,q2,q3,d0,d1,d2,d3,d4,d5,d6⟩:=BQ.mk' (hN3.below h) (hB3.below h);have hC:=au h Za;exact ⟨q0,q1,q2,q3,d0,d1,d2,d3,d4,d5,d6,ah hC 0 _ rfl,ah hC 1 _ rfl,ah hC 2 _ rfl,ah hC 3 _ rfl⟩)
 have aS:=zC hQ.1;clear z1 z2 hN1 hB2 Za hN3 hB3 b1 b2 b3;go_enter Tryz.func4,Tryz.ntmps4;go_wp2_with fail;rw [<-hw1,<-hw2,<-hw3];clear hw1 hw2 hw3;refine (akb _).mono ?_;rintro e w4 ⟨rfl,b4⟩;have hb4:=bel hb3 b4;obtain ⟨p0,p1,p2,p3,c0,c1,c2,c3,c4,c5,c6,y0,y1,y2,y3⟩:=aC.out _ b4;go_wp2_with fail;refine (akB x q _ (hS.below hb4) (hQ.below hb4) (hX.below hb4) hmB).mono ?_;rintro e w5 ⟨⟨z,rfl,hz⟩,b5⟩;have HZ:=zC hz;have jv:=bel b4 b5;have hb5:=bel hb3 jv;clear p0 p1 p2 p3 c0 c1 c2 c3 c4 c5 c6 y0 y1 y2 y3 hz;obtain ⟨p0,p1,p2,p3,c0,c1,c2,c3,c4,c5,c6,y0,y1,y2,y3⟩:=aC.out _ jv;cases z
 ·go_wp2_with fail;go_ret;exact ⟨rfl,hb5⟩
 have hF:=HZ.out rfl;go_wp2_with fail;refine (agm a0 _ (hA.below hb5)).mono ?_;rintro e w6 ⟨⟨z,rfl,hz⟩,b6⟩;have HZ2:=zC hz;have dR:=bel jv b6;have hb6:=bel hb3 dR;clear p0 p1 p2 p3 c0 c1 c2 c3 c4 c5 c6 y0 y1 y2 y3 hz;obtain ⟨p0,p1,p2,p3,c0,c1,c2,c3,c4,c5,c6,y0,y1,y2,y3⟩:=aC.out _ dR;cases z
 ·go_wp2_with fail;go_ret;exact ⟨rfl,hb6⟩
 have Ze:=(HZ2.out rfl).ok hc;have hx6:=hF.ok (aX.below hN hb6) (hS.below hb6) (hQ.below hb6) (hX.below hb6);go_wp2_with fail;refine (ae4 x q _ hx6 hF).mono ?_;rintro e w7 ⟨⟨x',a,acc,er,rfl,hAt,hAo,hac,her,Sv,hbk⟩,b7⟩;obtain ⟨R,hR⟩:=zB (K.dL x.nd x.l x.ss x.r q);rw [<-hR] at her Sv hbk;have fJ:=bel dR b7;obtain ⟨W0,hW0⟩:=zB ((w7.alloc (.cells #[.int .i64 x'.nd,.slice x'.A x'.n x'.c,.slice x'.SA x'.sn x'.sc,.slice x'.B x'.m x'.d] 44)).alloc (.cells #[.bool acc,.slice a.PA a.pn a.pc,.slice a.VA a.vn a.vc,.slice a.RA a.rn a.rc] 50));obtain ⟨gA,hgA⟩:=zB w7.heap.size;obtain ⟨gB,hgB⟩:=zB (w7.heap.size + 1);have Kw:af w7 W0:=by rw [hW0];exact aV (aV ai _) _
 have m_:W0.heap[gA]? = some (.cells #[.int .i64 x'.nd,.slice x'.A x'.n x'.c,.slice x'.SA x'.sn x'.sc,.slice x'.B x'.m x'.d] 44 (0,0)):=by rw [hW0,hgA];exact aO (aA _ _) _
 have yX:W0.heap[gB]? = some (.cells #[.bool acc,.slice a.PA a.pn a.pc,.slice a.VA a.vn a.vc,.slice a.RA a.rn a.rc] 50 (0,0)):=by rw [hW0,hgB];exact bU _ _ _ (aF _ _).symm
 have Ql:=bel fJ Kw;have hb0:=bel hb3 Ql;have agX:=hAt.below Kw;have JB:=zC (show ∀ w',af w7 w'->Aj w' x x' R.1 from λw' h=>hbk.below2 h);clear p0 p1 p2 p3 c0 c1 c2 c3 c4 c5 c6 y0 y1 y2 y3 hbk;have HR:=zC hR;have FB:=zC her;have Jz:=zC Sv;have Fh:=zC hac;have hx0:=(hx6.below b7).below Kw;clear hR her Sv hac;go_upto_region 5 with fail;rw [<-hW0,<-hgB,<-hgA];clear hW0 hgB hgA;obtain ⟨p0,p1,p2,p3,c0,c1,c2,c3,c4,c5,c6,y0,y1,y2,y3⟩:=aC.out _ Ql;go_wp2_with fail;refine (aki x q _ hx0 hF).mono ?_;rintro e w8 ⟨⟨x2,a2,J_,QI,rfl,hAt2,agW,ZT,Tn,Sz,hbk2⟩,b8⟩;rw [<-HR.out] at Tn Sz hbk2;have he:QI=er:=Tn.trans FB.out.symm;subst he;have aes:=zC ZT;have heq:=zC (show a.an=a2.an from Jz.out.trans Sz.symm);clear Tn ZT Sz;have je:=bel Ql b8;obtain ⟨W1,hW1⟩:=zB ((w8.alloc (.cells #[.int .i64 x2.nd,.slice x2.A x2.n x2.c,.slice x2.SA x2.sn x2.sc,.slice x2.B x2.m x2.d] 44)).alloc (.cells #[.bool J_,.slice a2.PA a2.pn a2.pc,.slice a2.VA a2.vn a2.vc,.slice a2.RA a2.rn a2.rc] 50));obtain ⟨gC,Tu⟩:=zB w8.heap.size;obtain ⟨gD,Tv⟩:=zB (w8.heap.size + 1);have Ky:af w8 W1:=by rw [hW1];exact aV (aV ai _) _
 have GN:W1.heap[gC]? = some (.cells #[.int .i64 x2.nd,.slice x2.A x2.n x2.c,.slice x2.SA x2.sn x2.sc,.slice x2.B x2.m x2.d] 44 (0,0)):=by rw [hW1,Tu];exact aO (aA _ _) _
 have GR:W1.heap[gD]? = some (.cells #[.bool J_,.slice a2.PA a2.pn a2.pc,.slice a2.VA a2.vn a2.vc,.slice a2.RA a2.rn a2.rc] 50 (0,0)):=by rw [hW1,Tv];exact bU _ _ _ (aF _ _).symm
 have iM:=bel je Ky;have b01:=bel b8 Ky;have hbW:=bel hb3 iM;have GL:=au b01 m_;have GM:=au b01 yX;have hx1:=hx0.below b01;have hAt1:=agX.below b01;have hAt3:=hAt2.below Ky;have hAx:=hA.below hbW;have hk1:=JB.out _ (bel Kw b01);have hk2:=hbk2.below2 Ky;obtain ⟨z9,lW⟩:∃ z9,K.kQ x.nd x.l x.ss x.r q a0.an=z9:=⟨_,rfl⟩;have C35:∀ i:ak W1,ay 35 #[lm x',lm x2] i.val (bg i.val true):=λi=>alc i.val x x' x2 R.1 (hx1.cs.below i.property) (hk1.below2 i.property) (hk2.below2 i.property);have C36:∀ i:ak W1,ay 36 #[pM a acc,pM a2 J_] i.val (bg i.val true):=λi=>ala a a2 acc J_ i.val (hAt1.below i.property) (hAt3.below i.property) hAo agW Fh.out aes.out heq.out;have C37:∀ i:ak W1,ay 37 #[lm x,iL q,pM a0 a0.acc] i.val (bg i.val z9):=λi=>afM x q a0 a0.acc z9 i.val (hx1.below i.property) (hAx.below i.property) Ze rfl lW;have C38:∀ i:ak W1,ay 38 #[lm x,iL q,pM a0 a0.acc] i.val (bg i.val z9):=λi=>akm x q a0 z9 i.val (hx1.below i.property) (hAx.below i.property) Ze rO lW;clear p0 p1 p2 p3 c0 c1 c2 c3 c4 c5 c6 y0 y1 y2 y3;have d1:(QI == QI)=true:=by simp
 have d2:(z9 == z9)=true:=by simp
 obtain ⟨p0,p1,p2,p3,c0,c1,c2,c3,c4,c5,c6,y0,y1,y2,y3⟩:=aC.out _ iM;have Fp0:=ak.cell p0;have Fp1:=ak.cell p1;have Fp2:=ak.cell p2;have Fp3:=ak.cell p3;have Fc0:=ak.cell c0;have Fc1:=ak.cell c1;have Fc2:=ak.cell c2;have Fc3:=ak.cell c3;have Fc4:=ak.cell c4;have Fc5:=ak.cell c5;have Fc6:=ak.cell c6;have Fy0:=ak.cell y0;have Fy1:=ak.cell y1;have Fy2:=ak.cell y2;have Fy3:=ak.cell y3;have FA0:=ak.cell (ah GL 0 _ rfl);have FA1:=ak.cell (ah GL 1 _ rfl);have FA2:=ak.cell (ah GL 2 _ rfl);have FA3:=ak.cell (ah GL 3 _ rfl);have FB0:=ak.cell (ah GM 0 _ rfl);have FB1:=ak.cell (ah GM 1 _ rfl);have FB2:=ak.cell (ah GM 2 _ rfl);have FB3:=ak.cell (ah GM 3 _ rfl);have FC0:=ak.cell (ah GN 0 _ rfl);have FC1:=ak.cell (ah GN 1 _ rfl);have FC2:=ak.cell (ah GN 2 _ rfl);have FC3:=ak.cell (ah GN 3 _ rfl);have FD0:=ak.cell (ah GR 0 _ rfl);have FD1:=ak.cell (ah GR 1 _ rfl);have FD2:=ak.cell (ah GR 2 _ rfl);have FD3:=ak.cell (ah GR 3 _ rfl);clear p0 p1 p2 p3 c0 c1 c2 c3 c4 c5 c6 y0 y1 y2 y3 GL GM GN GR hk1 hk2 heq lW hAt1 hAt3 hAx hx1;go_upto_region 6 with fail;rw [<-hW1,<-Tv,<-Tu];clear hW1 Tv Tu;refine fV (by kernel_rfl) (by kernel_rfl) ?_;repeat (go_big_quiet_step ((first | (go_at_call 35;exact ak.calls (C35 _)) | (go_at_call 36;exact ak.calls (C36 _)) | (go_at_call 37;exact ak.calls (C37 _)) | (go_at_call 38;exact ak.calls (C38 _)) | fail)))
 refine wpQuiet_nil ?_;rintro w9 ⟨⟨_,b9⟩,rfl⟩;go_wp2_with fail;go_ret;exact ⟨rfl,bel hbW b9⟩
section
open Go.ChangeShapes Go.WideShapes Go.Deep Go.RowKit
section
variable {H : Type} {enc : TypeId × Value -> H} {P : Program} {w : World} {base : Nat} {spare : Nat -> Bool} {held : Bool}
theorem zZ {t e:TypeId} {fs:Array Field} {fuel:Nat} {cs:List Value} {x:DataW H × List MemPlace} (ht:P.underlying t=some (.slice e)) (he:P.underlying e=some (.struct fs))
  (hone:oneCellFields P fs=true) (hC:P.cellsOf e=fs.size) (h:DataW.trod enc P w base spare held fuel t cs=some x) :
  (cs=[.slice none 0 0]/\x=(.nil,[])) \/
  ∃ (a:Addr) (len cap m:Nat) (D:Nat->DataW H) (Pl:Nat->List MemPlace),cs=[.slice (some a) len cap]/\base<=a.block/\len<=cap/\cap<=maxLen/\m=(if spare a.block then cap else len) /\
   x=(.slice ((List.range len).map D) ((List.range (m - len)).map λj=>D (len + j)),MemPlace.row a (m * fs.size) ++ (List.range m).flatMap Pl) /\
   ∀ i,i < m->∃ (ys:List (DataW H × List MemPlace)) (n:Nat),D i=.agg (ys.map (·.1))/\Pl i=ys.flatMap (·.2)/\ys.length=fs.size /\
    ∀ (j:Nat) (f:Field),fs[j]? = some f->∃ (v:Value) (y:DataW H × List MemPlace),w.cell? (a.add (i * fs.size + j))=some v/\ys[j]? = some y/\DataW.trod enc P w base spare held n f.type [v] = some y:=by
 rcases open_slice ht h with h0 | ⟨a,len,cap,m,n,D,Pl,hcs,hb,hl,hm,hmm,hx,hi⟩
 ·exact .inl h0
 ·refine .inr ⟨a,len,cap,m,D,Pl,hcs,hb,hl,hm,hmm,by rw [hC] at hx;exact hx,λi him=>?_⟩;obtain ⟨cs',hc,ht'⟩:=hi i him;rw [hC] at hc;obtain ⟨ys,n',hn',hy,hlen,hyl,hf⟩:=DataW.trod_struct he ht';obtain ⟨_,hcl,hat⟩:=World.cells?_some hc;simp only [Prod.mk.injEq] at hy;refine ⟨ys,n',hy.1,hy.2,hyl,λj f hj=>?_⟩;obtain ⟨ho,hk⟩:=hone_of hone j f hj;have hjl:j < fs.size:=(l_.1 hj).1;have hcell:=hat j hjl;have hv:cs'[j]? = some (cs'[j]'(by omega)):=zF (by omega);have h1:=hf j f hj;rw [ho,hk] at h1;have hone':(cs'.drop j).take 1=[cs'[j]'(by omega)]:=by
   rw [jE (by omega)];rfl
  rw [hone'] at h1;have hys:ys[j]? = some (ys[j]'(by omega)):=zF (by omega);refine ⟨_,_,?_,hys,h1.trans hys⟩;rw [<-Go.Deep.add_add,hcell,hv]
end
section
variable {H : Type} {enc : TypeId × Value -> H} {P : Program}
theorem aj9 {f:Func} {s:ChangeSpec} {apart fresh handsOn again:Bool} {W W':World} {args:Array Value} {v:Value} {ds gs:List (DataW H)} {before pa pv:List MemPlace}
  (hW:DataW.Whole enc P f.params.toList s.vars apart W args.toList ds gs before)
  (hres:∀ (b:Nat) (sp:Nat->Bool) (hd:Bool),DataW.TrodAll enc P W' b sp hd f.resultTypes.toList (v.resultList f.resultTypes.size) (s.fn H (ds ++ gs)).results [])
  (hargs:∀ sp:Nat->Bool,(∀ p ∈ before,sp p.block=true)->DataW.TrodAll enc P W' 0 sp true f.params.toList args.toList (s.fn H (ds ++ gs)).args pa)
  (hvars:∀ sp:Nat->Bool,(∀ p ∈ before,sp p.block=true)->DataW.TrodVars enc P W' sp s.vars (s.fn H (ds ++ gs)).vars pv)
  (hps:before=pa ++ pv) (hb:af W W')
  (hok:∀ (j:Nat) (t:TypeId) (r:Value),f.resultTypes[j]? = some t->(v.resultList f.resultTypes.size)[j]? = some r->Value.okWide P W' .any 0 t r) :
  s.post enc P f apart fresh handsOn again W args v W':=by
 have hlt:∀ p ∈ before,p.block < W.heap.size:=λp hp=>hW.lt p hp;have hold:∀ p ∈ before,(λb=>decide (b < W.heap.size)) p.block=true:=λp hp=>by simpa using hlt p hp
 refine ⟨ds,gs,before,[],pa,pv,hW,hres _ _ _,hargs _ hold,hvars _ hold,World.keptBut_mono (λp hp=>⟨hp,?_⟩) (hb.frame (· ∈ before)),λ_=>?_⟩
 ·rw [hps,dX] at hp;exact Or.inr hp
 ·obtain ⟨_,_,_,_,_,hz,hn⟩:=hW;refine ⟨hok,_,_,([] ++ pa) ++ pv,⟨[] ++ pa,pv,trodAll_append (hargs _ (λ_ _=>rfl)) (hres _ _ _),hvars _ (λ_ _=>rfl),rfl,?_,?_⟩,?_⟩
  ·intro b off hp;have hin:MemPlace.cell b off ∈ before:=by rw [hps];simpa using hp
   rw [hb.frozen (hlt _ hin)];exact hz b off hin
  ·intro ha;have:=hn ha;rw [hps] at this;simpa using this
  ·intro p hp _;rw [hps];simpa using hp
end
theorem zX {α:Type} {n:Nat} {Q:Nat->α->Prop} (h:∀ i,i < n->∃ x,Q i x):∃ l:List α,l.length=n/\∀ i x,l[i]? = some x->Q i x:=by
 induction n with
 | zero=>exact ⟨[],rfl,λi x hx=>by simp at hx⟩
 | succ n ih =>
  obtain ⟨l,hl,hq⟩:=ih (λi hi=>h i (by omega));obtain ⟨x,hx⟩:=h n (by omega);refine ⟨l ++ [x],by simp [hl],λi y hy=>?_⟩;rw [List.getElem?_append] at hy;split at hy
  ·exact hq i y hy
  ·rename_i hlt
   have e:i=n:=by
    by_cases e:i - l.length=0
    ·omega
    ·rw [lK (by simp;omega)] at hy;cases hy
   subst e;rw [<-hl,Nat.sub_self] at hy;simp at hy;subst hy;exact hx
theorem amE {w:World} {ad:Addr} {l:List (Int × Int)} (h:∀ i p,l[i]? = some p->w.cell? (ad.add (i * 2))=some (.int .i64 p.1)/\w.cell? (ad.add (i * 2 + 1))=some (.int .i64 p.2)) :
  ∀ j u,(qP l)[j]? = some u->w.cell? (ad.add j)=some u:=by
 intro j u hu;have hj:j < (qP l).length:=(zE.1 hu).1;rw [aeq] at hj;have hp:l[j / 2]? = some (l[j / 2]'(by omega)):=zF (by omega);obtain ⟨g1,g2⟩:=aep l _ _ hp;obtain ⟨k1,k2⟩:=h _ _ hp;by_cases e:j % 2=0
 ·have:j=j / 2 * 2:=by omega
  rw [this] at hu ⊢;rw [g1] at hu;injection hu with hu;rw [<-hu];exact k1
 ·have:j=j / 2 * 2 + 1:=by omega
  rw [this] at hu ⊢;rw [g2] at hu;injection hu with hu;rw [<-hu];exact k2
section
variable {H : Type} {enc : TypeId × Value -> H} {P : Program}
theorem amh (hl:laidOutB P=true) {W W':World} {sp:Nat->Bool} (hb:af W W') :
  ∀ (ts:List TypeId) (vs:List Value) (ds:List (DataW H)) (ps:List MemPlace),(∀ t ∈ ts,P.readableRec t=true/\t < P.types.size)->DataW.TrodAll enc P W 0 (λ_=>true) true ts vs ds ps ->
   (∀ x ∈ ps,x.block < W.heap.size)->(∀ x ∈ ps,sp x.block=true)->DataW.TrodAll enc P W' 0 sp true ts vs ds ps:=by
 intro ts;induction ts with
 | nil=>intro vs ds ps _ h _ _;cases vs <;> cases ds <;> first | exact h | exact h.elim
 | cons t ts ih =>
  intro vs ds ps hts h hlt hsp;match vs,ds,h with
  | v :: vs,d :: ds,⟨p,q,h1,h2,e⟩ =>
   subst e;have ht:=hts t (dJ ..);exact ⟨p,q,WideElems.Trod_stays hl ht.1 ht.2 h1 (λx hx=>hb.same (hlt x (List.mem_append_left _ hx))) (λx hx=>hsp x (List.mem_append_left _ hx)),
    ih vs ds q (λt' h'=>hts t' (dN _ h')) h2 (λx hx=>hlt x (List.mem_append_right _ hx)) (λx hx=>hsp x (List.mem_append_right _ hx)),rfl⟩
end
theorem Tryz.laid:laidOutB Tryz.prog=true:=by kernel_rfl
section
variable {H : Type} {enc : TypeId × Value -> H}
theorem anL {f:Func} {s:ChangeSpec} {W W':World} {args:Array Value} {ds:List (DataW H)} {before:List MemPlace} (hts:∀ t ∈ f.params.toList,Tryz.prog.readableRec t=true/\t < Tryz.prog.types.size)
  (hv:s.vars=[]) (hres:f.resultTypes=#[4]) (hW:DataW.Whole enc Tryz.prog f.params.toList s.vars false W args.toList ds [] before)
  (hspec:s.fn H (ds ++ [])={ results:=[.lit (.bool true)],args:=ds }) (hb:af W W'):s.post enc Tryz.prog f false true false false W args (.bool true) W':=by
 have hW':=hW;obtain ⟨p,q,hA,hV,rfl,hfz,hnd⟩:=hW;rw [hv] at hV;obtain ⟨_,rfl⟩:=trodVars_none hV;have hlt:∀ x ∈ p ++ [],x.block < W.heap.size:=λx hx=>hW'.lt x hx;rw [List.append_nil] at hlt;refine aj9 (pa:=p) (pv:=[]) hW' ?_ ?_ ?_ rfl hb ?_
 ·intro b sp hd;rw [hspec,hres];exact trodAll_cons_mk (shut_bool Tryz.underlying4 _) trodAll_mk0
 ·intro sp hsp;rw [hspec];exact amh Tryz.laid hb _ _ _ _ hts hA hlt (λx hx=>hsp x (by simpa using hx))
 ·intro sp _;rw [hspec,hv];rfl
 ·exact ok_one hres rfl (okWide_bool_mk Tryz.underlying4 _)
end
end
section
open Go.ChangeShapes Go.WideShapes Go.Deep Go.RowKit
section
variable {H : Type} {enc : TypeId × Value -> H} {W : World} {base b0 : Nat} {spare : Nat -> Bool} {held : Bool} {r : Reach}
theorem aer {fuel:Nat} {v:Value} {x:DataW H × List MemPlace} (hf:DataW.trod enc Tryz.prog W b0 spare held fuel 45 [v] = some x):∃ A n c l,v=.slice A n c/\dA W A n l:=by
 rcases zZ Tryz.underlying45 Tryz.underlying158 (by kernel_rfl) (by kernel_rfl) hf with ⟨hcs,_⟩ | ⟨a,len,cap,m,D,Pl,hcs,_,hlc,_,hm,_,hcell⟩
 ·simp at hcs;subst hcs;exact ⟨none,0,0,[],rfl,rfl,rfl,λh0=>absurd h0 (by omega)⟩
 ·simp at hcs;subst hcs;have hlm:len<=m:=by rw [hm];split <;> omega
  have key:∀ i,i < len->∃ p:Int × Int,W.cell? (a.add (i * 2))=some (.int .i64 p.1)/\W.cell? (a.add (i * 2 + 1))=some (.int .i64 p.2):=by
   intro i hi;obtain ⟨ys,n,_,_,_,hfld⟩:=hcell i (by omega);obtain ⟨v0,y0,c0,_,t0⟩:=hfld 0 _ rfl;obtain ⟨v1,y1,c1,_,t1⟩:=hfld 1 _ rfl;obtain ⟨n0,e0,_⟩:=DataW.trod_int Tryz.underlying3 t0;obtain ⟨n1,e1,_⟩:=DataW.trod_int Tryz.underlying3 t1;simp at e0 e1;subst e0 e1;exact ⟨(n0,n1),c0,c1⟩
  obtain ⟨l,hl,hq⟩:=zX key;exact ⟨_,_,_,l,rfl,hl.symm,by rw [aeq,hl],λ_=>⟨a,rfl,amE hq⟩⟩
theorem akx {w:World} {ad:Addr} {l:List Q} (h:∀ i q,l[i]? = some q->∀ j u,q.cells[j]? = some u->w.cell? (ad.add (i * 7 + j))=some u) :
  ∀ j u,(rY l)[j]? = some u->w.cell? (ad.add j)=some u:=by
 intro j u hu;have hj:j < (rY l).length:=(zE.1 hu).1;rw [Vm] at hj;have hp:l[j / 7]? = some (l[j / 7]'(by omega)):=zF (by omega);have hjj:j=j / 7 * 7 + j % 7:=by omega
 have g:=acS l _ _ hp (j % 7) (by omega);rw [<-hjj,hu] at g;have:=h _ _ hp (j % 7) u g.symm;rwa [<-hjj] at this
theorem aky {fuel:Nat} {v:Value} {x:DataW H × List MemPlace} (hf:DataW.trod enc Tryz.prog W b0 spare held fuel 26 [v] = some x):∃ A n c l,v=.slice A n c/\dm W A n l:=by
 rcases zZ Tryz.underlying26 Tryz.underlying47 (by kernel_rfl) (by kernel_rfl) hf with ⟨hcs,_⟩ | ⟨a,len,cap,m,D,Pl,hcs,_,hlc,_,hm,_,hcell⟩
 ·simp at hcs;subst hcs;exact ⟨none,0,0,[],rfl,rfl,⟨rfl,λh0=>absurd h0 (by omega)⟩,λq hq=>by simp at hq⟩
 ·simp at hcs;subst hcs;have hlm:len<=m:=by rw [hm];split <;> omega
  have key:∀ i,i < len->∃ q:Q,dA W q.A q.n q.l/\∀ j u,q.cells[j]? = some u->W.cell? (a.add (i * 7 + j))=some u:=by
   intro i hi;obtain ⟨ys,n,_,_,_,hfld⟩:=hcell i (by omega);obtain ⟨v0,y0,c0,_,t0⟩:=hfld 0 _ rfl;obtain ⟨v1,y1,c1,_,t1⟩:=hfld 1 _ rfl;obtain ⟨v2,y2,c2,_,t2⟩:=hfld 2 _ rfl;obtain ⟨v3,y3,c3,_,t3⟩:=hfld 3 _ rfl;obtain ⟨v4,y4,c4,_,t4⟩:=hfld 4 _ rfl;obtain ⟨v5,y5,c5,_,t5⟩:=hfld 5 _ rfl;obtain ⟨v6,y6,c6,_,t6⟩:=hfld 6 _ rfl;obtain ⟨n0,e0,_⟩:=DataW.trod_int Tryz.underlying3 t0;obtain ⟨n1,e1,_⟩:=DataW.trod_int Tryz.underlying3 t1;obtain ⟨n2,e2,_⟩:=DataW.trod_int Tryz.underlying3 t2;obtain ⟨n3,e3,_⟩:=DataW.trod_int Tryz.underlying3 t3;obtain ⟨n4,e4,_⟩:=DataW.trod_int Tryz.underlying3 t4;obtain ⟨n5,e5,_⟩:=DataW.trod_int Tryz.underlying3 t5;obtain ⟨A,nn,cc,l,rfl,hw⟩:=aer t6;simp at e0 e1 e2 e3 e4 e5;subst e0 e1 e2 e3 e4 e5;refine ⟨⟨n0,n1,n2,n3,n4,n5,A,nn,cc,l⟩,hw,?_⟩;intro j u hu;rcases j with _ | _ | _ | _ | _ | _ | _ | j <;> simp [Q.cells] at hu <;> subst hu <;> assumption
  obtain ⟨l,hl,hq⟩:=zX key;refine ⟨_,_,_,l,rfl,hl.symm,⟨by rw [Vm,hl],λ_=>⟨a,rfl,akx λi q hi=>(hq i q hi).2⟩⟩,?_⟩;intro q hq';obtain ⟨i,hi⟩:=List.mem_iff_getElem?.1 hq';exact (hq i q hi).1
end
end
section
open Go.ChangeShapes Go.WideShapes Go.Deep Go.RowKit
section
variable {H : Type} {enc : TypeId × Value -> H} {W : World} {base b0 : Nat} {spare : Nat -> Bool} {held : Bool} {r : Reach}
theorem Gx {fuel:Nat} {v:Value} {x:DataW H × List MemPlace} (hf:DataW.trod enc Tryz.prog W b0 spare held fuel 48 [v] = some x):∃ A n c l,v=.slice A n c/\Ints W A n l/\n<=c:=by
 rcases open_slice Tryz.underlying48 hf with ⟨hcs,_⟩ | ⟨a,len,cap,m,n,D,Pl,hcs,_,hlc,_,hm,_,hcell⟩
 ·simp at hcs;subst hcs;exact ⟨none,0,0,[],rfl,⟨rfl,rfl,λh0=>absurd h0 (by omega)⟩,zG _⟩
 ·simp at hcs;subst hcs;have hC:Tryz.prog.cellsOf 3=1:=by kernel_rfl
  have hlm:len<=m:=by rw [hm];split <;> omega
  have key:∀ i,i < len->∃ p:Int,W.cell? (a.add i)=some (.int .i64 p):=by
   intro i hi;obtain ⟨cs',hc,ht'⟩:=hcell i (by omega);rw [hC,Nat.mul_one] at hc;obtain ⟨_,_,hat⟩:=World.cells?_some hc;obtain ⟨n0,e0,_⟩:=DataW.trod_int Tryz.underlying3 ht';subst e0;have h0:=hat 0 (by omega);rw [Go.Deep.add_add,Nat.add_zero] at h0;exact ⟨n0,h0⟩
  obtain ⟨l,hl,hq⟩:=zX key;refine ⟨_,_,_,l,rfl,⟨hl.symm,by simp [intCells,hl],λ_=>⟨a,rfl,?_⟩⟩,hlc⟩;intro j u hu;rw [intCells,dG] at hu;obtain ⟨y,hy,rfl⟩:=Option.map_eq_some_iff.1 hu;exact hq j y hy
theorem akM {w:World} {ad:Addr} {l:List Ro} (h:∀ i q,l[i]? = some q->∀ j u,(qN q)[j]? = some u->w.cell? (ad.add (i * 4 + j))=some u) :
  ∀ j u,(l.flatMap qN)[j]? = some u->w.cell? (ad.add j)=some u:=by
 intro j u hu;have hj:j < (l.flatMap qN).length:=(zE.1 hu).1;rw [tH qN 4 (λ_=>rfl)] at hj;have hp:l[j / 4]? = some (l[j / 4]'(by omega)):=zF (by omega);have hjj:j=j / 4 * 4 + j % 4:=by omega
 have g:=flat_get qN 4 (λ_=>rfl) l _ _ hp (j % 4) (by omega);rw [<-hjj,hu] at g;have:=h _ _ hp (j % 4) u g.symm;rwa [<-hjj] at this
theorem akN {fuel:Nat} {v:Value} {x:DataW H × List MemPlace} (hf:DataW.trod enc Tryz.prog W b0 spare held fuel 22 [v] = some x):∃ A n c l,v=.slice A n c/\gq W A n l:=by
 rcases zZ Tryz.underlying22 Tryz.underlying134 (by kernel_rfl) (by kernel_rfl) hf with ⟨hcs,_⟩ | ⟨a,len,cap,m,D,Pl,hcs,_,hlc,_,hm,_,hcell⟩
 ·simp at hcs;subst hcs;exact ⟨none,0,0,[],rfl,rfl,rfl,λh0=>absurd h0 (by omega)⟩
 ·simp at hcs;subst hcs;have hlm:len<=m:=by rw [hm];split <;> omega
  have key:∀ i,i < len->∃ q:Ro,∀ j u,(qN q)[j]? = some u->W.cell? (a.add (i * 4 + j))=some u:=by
   intro i hi;obtain ⟨ys,n,_,_,_,hfld⟩:=hcell i (by omega);obtain ⟨v0,y0,c0,_,t0⟩:=hfld 0 _ rfl;obtain ⟨v1,y1,c1,_,t1⟩:=hfld 1 _ rfl;obtain ⟨v2,y2,c2,_,t2⟩:=hfld 2 _ rfl;obtain ⟨v3,y3,c3,_,t3⟩:=hfld 3 _ rfl;obtain ⟨n0,e0,_⟩:=DataW.trod_int Tryz.underlying3 t0;obtain ⟨n1,e1,_⟩:=DataW.trod_int Tryz.underlying3 t1;obtain ⟨n2,e2,_⟩:=DataW.trod_int Tryz.underlying3 t2;obtain ⟨n3,e3,_⟩:=DataW.trod_int Tryz.underlying3 t3;simp at e0 e1 e2 e3;subst e0 e1 e2 e3;refine ⟨⟨n0,n1,n2,n3⟩,?_⟩;intro j u hu;rcases j with _ | _ | _ | _ | j <;> simp [qN] at hu <;> subst hu <;> assumption
  obtain ⟨l,hl,hq⟩:=zX key;exact ⟨_,_,_,l,rfl,hl.symm,by rw [tH qN 4 (λ_=>rfl),hl],λ_=>⟨a,rfl,akM λi q hi=>hq i q hi⟩⟩
end
end
section
open Go.ChangeShapes Go.WideShapes Go.Deep Go.RowKit
section
variable {H : Type} {enc : TypeId × Value -> H} {W : World} {base b0 : Nat} {spare : Nat -> Bool} {held : Bool} {r : Reach}
theorem aix {W:World} {ad:Addr} {l:List Lb} (h:∀ (i:Nat) (q:Lb),l[i]? = some q->∀ (j:Nat) (u:Value),(mM q)[j]? = some u->W.cell? (ad.add (i * 3 + j))=some u) :
  ∀ j u,(l.flatMap mM)[j]? = some u->W.cell? (ad.add j)=some u:=by
 intro j u hu;have hj:j < (l.flatMap mM).length:=(zE.1 hu).1;rw [tH mM 3 (λ_=>rfl)] at hj;have hp:l[j / 3]? = some (l[j / 3]'(by omega)):=zF (by omega);have hjj:j=j / 3 * 3 + j % 3:=by omega
 have g:=flat_get mM 3 (λ_=>rfl) l _ _ hp (j % 3) (by omega);rw [<-hjj,hu] at g;have:=h _ _ hp (j % 3) u g.symm;rwa [<-hjj] at this
theorem aiA {fuel:Nat} {v:Value} {x:DataW H × List MemPlace} (hf:DataW.trod enc Tryz.prog W b0 spare held fuel 88 [v] = some x):∃ A n c l,v=.slice A n c/\gY W A n l:=by
 rcases zZ Tryz.underlying88 Tryz.underlying167 (by kernel_rfl) (by kernel_rfl) hf with ⟨hcs,_⟩ | ⟨a,len,cap,m,D,Pl,hcs,_,hlc,_,hm,_,hcell⟩
 ·simp at hcs;subst hcs;exact ⟨none,0,0,[],rfl,rfl,rfl,λh0=>absurd h0 (by omega)⟩
 ·simp at hcs;subst hcs;have hlm:len<=m:=by rw [hm];split <;> omega
  have key:∀ i,i < len->∃ q:Lb,∀ j u,(mM q)[j]? = some u->W.cell? (a.add (i * 3 + j))=some u:=by
   intro i hi;obtain ⟨ys,n,_,_,_,hfld⟩:=hcell i (by omega);obtain ⟨v0,y0,c0,_,t0⟩:=hfld 0 _ rfl;obtain ⟨v1,y1,c1,_,t1⟩:=hfld 1 _ rfl;obtain ⟨v2,y2,c2,_,t2⟩:=hfld 2 _ rfl;obtain ⟨n0,e0,_⟩:=DataW.trod_int Tryz.underlying3 t0;obtain ⟨n1,e1,_⟩:=DataW.trod_int Tryz.underlying3 t1;obtain ⟨n2,e2,_⟩:=DataW.trod_int Tryz.underlying3 t2;simp at e0 e1 e2;subst e0 e1 e2;refine ⟨⟨n0,n1,n2⟩,?_⟩;intro j u hu;rcases j with _ | _ | _ | j <;> simp [mM] at hu <;> subst hu <;> assumption
  obtain ⟨l,hl,hq⟩:=zX key;exact ⟨_,_,_,l,rfl,hl.symm,by rw [tH mM 3 (λ_=>rfl),hl],λ_=>⟨a,rfl,aix λi q hi=>hq i q hi⟩⟩
end
end
section
open Go.ChangeShapes Go.WideShapes Go.Deep Go.RowKit
theorem QK {α:Type} (f:α->List Value) (s:Nat) (hs:∀ x,(f x).length=s) (h0:0 < s) {w:World} {ad:Addr} {l:List α} (h:∀ (i:Nat) (q:α),l[i]? = some q->∀ (j:Nat) (u:Value),(f q)[j]? = some u->w.cell? (ad.add (i * s + j))=some u) :
  ∀ j u,(l.flatMap f)[j]? = some u->w.cell? (ad.add j)=some u:=by
 intro j u hu;have hj:j < (l.flatMap f).length:=(zE.1 hu).1;rw [tH f s hs] at hj;have hd:j / s < l.length:=Nat.div_lt_of_lt_mul (by rw [Nat.mul_comm];exact hj);have hp:l[j / s]? = some (l[j / s]'hd):=zF hd;have hm:j % s < s:=Nat.mod_lt _ h0;have hjj:j=j / s * s + j % s:=by rw [Nat.mul_comm];exact (Nat.div_add_mod j s).symm
 have g:=flat_get f s hs l _ _ hp (j % s) hm;rw [<-hjj,hu] at g;have:=h _ _ hp (j % s) u g.symm;rwa [<-hjj] at this
section
variable {H : Type} {enc : TypeId × Value -> H} {W : World} {base b0 : Nat} {spare : Nat -> Bool} {held : Bool} {r : Reach}
theorem alP {fuel:Nat} {v:Value} {x:DataW H × List MemPlace} (hf:DataW.trod enc Tryz.prog W b0 spare held fuel 25 [v] = some x):∃ A n c l,v=.slice A n c/\Shifts W A n l/\n<=c:=by
 rcases zZ Tryz.underlying25 Tryz.underlying63 (by kernel_rfl) (by kernel_rfl) hf with ⟨hcs,_⟩ | ⟨a,len,cap,m,D,Pl,hcs,_,hlc,_,hm,_,hcell⟩
 ·simp at hcs;subst hcs;exact ⟨none,0,0,[],rfl,⟨⟨rfl,rfl,λh0=>absurd h0 (by omega)⟩,λq hq=>by cases hq⟩,zG _⟩
 ·simp at hcs;subst hcs;have hlm:len<=m:=by rw [hm];split <;> omega
  have key:∀ i,i < len->∃ q:S,(Ints W q.A q.n q.l)/\∀ j u,(S.cells q)[j]? = some u->W.cell? (a.add (i * 6 + j))=some u:=by
   intro i hi;obtain ⟨ys,n,_,_,_,hfld⟩:=hcell i (by omega);obtain ⟨v0,y0,d0,_,t0⟩:=hfld 0 _ rfl;obtain ⟨v1,y1,d1,_,t1⟩:=hfld 1 _ rfl;obtain ⟨v2,y2,d2,_,t2⟩:=hfld 2 _ rfl;obtain ⟨v3,y3,d3,_,t3⟩:=hfld 3 _ rfl;obtain ⟨v4,y4,d4,_,t4⟩:=hfld 4 _ rfl;obtain ⟨v5,y5,d5,_,t5⟩:=hfld 5 _ rfl;obtain ⟨n0,e0,_⟩:=DataW.trod_int Tryz.underlying3 t0;obtain ⟨n1,e1,_⟩:=DataW.trod_int Tryz.underlying3 t1;obtain ⟨n2,e2,_⟩:=DataW.trod_int Tryz.underlying3 t2;obtain ⟨n3,e3,_⟩:=DataW.trod_int Tryz.underlying3 t3;obtain ⟨n4,e4,_⟩:=DataW.trod_int Tryz.underlying3 t4;obtain ⟨A5,m5,c5,l5,rfl,g_,hc5⟩:=Gx t5;simp at e0 e1 e2 e3 e4;subst e0 e1 e2 e3 e4;refine ⟨⟨n0,n1,n2,n3,n4,A5,m5,c5,l5⟩,g_,?_⟩;intro j u hu;rcases j with _ | _ | _ | _ | _ | _ | j <;> simp [S.cells] at hu <;> subst hu <;> assumption
  obtain ⟨l,hl,hq⟩:=zX key;have hall:∀ q ∈ l,Ints W q.A q.n q.l:=λq hq'=>by
   obtain ⟨i,hi⟩:=List.mem_iff_getElem?.1 hq';exact (hq i q hi).1
  exact ⟨_,_,_,l,rfl,⟨⟨hl.symm,by rw [tH S.cells 6 (λ_=>rfl),hl],λ_=>⟨a,rfl,QK S.cells 6 (λ_=>rfl) (by omega) λi q hi=>(hq i q hi).2⟩⟩,hall⟩,hlc⟩
theorem amf {fuel:Nat} {v:Value} {x:DataW H × List MemPlace} (hf:DataW.trod enc Tryz.prog W b0 spare held fuel 27 [v] = some x):∃ A n c l,v=.slice A n c/\ja W A n l/\n<=c/\∀ q ∈ l,q.n<=q.c/\q.n'<=q.c':=by
 rcases zZ Tryz.underlying27 Tryz.underlying80 (by kernel_rfl) (by kernel_rfl) hf with ⟨hcs,_⟩ | ⟨a,len,cap,m,D,Pl,hcs,_,hlc,_,hm,_,hcell⟩
 ·simp at hcs;subst hcs;exact ⟨none,0,0,[],rfl,⟨⟨rfl,rfl,λh0=>absurd h0 (by omega)⟩,λq hq=>by cases hq⟩,zG _,λq hq=>by cases hq⟩
 ·simp at hcs;subst hcs;have hlm:len<=m:=by rw [hm];split <;> omega
  have key:∀ i,i < len->∃ q:TV,((Ints W q.A q.n q.t.stops/\Ints W q.A' q.n' q.t.times)/\q.n<=q.c/\q.n'<=q.c')/\∀ j u,(TV.cells q)[j]? = some u->W.cell? (a.add (i * 4 + j))=some u:=by
   intro i hi;obtain ⟨ys,n,_,_,_,hfld⟩:=hcell i (by omega);obtain ⟨v0,y0,d0,_,t0⟩:=hfld 0 _ rfl;obtain ⟨v1,y1,d1,_,t1⟩:=hfld 1 _ rfl;obtain ⟨v2,y2,d2,_,t2⟩:=hfld 2 _ rfl;obtain ⟨v3,y3,d3,_,t3⟩:=hfld 3 _ rfl;obtain ⟨n0,e0,_⟩:=DataW.trod_int Tryz.underlying3 t0;obtain ⟨A1,m1,c1,l1,rfl,hI1,hc1⟩:=Gx t1;obtain ⟨A2,m2,c2,l2,rfl,hI2,hc2⟩:=Gx t2;obtain ⟨n3,e3,_⟩:=DataW.trod_int Tryz.underlying3 t3;simp at e0 e3;subst e0 e3;refine ⟨⟨n0,A1,m1,c1,A2,m2,c2,⟨l1,l2,n3⟩⟩,⟨⟨hI1,hI2⟩,hc1,hc2⟩,?_⟩;intro j u hu;rcases j with _ | _ | _ | _ | j <;> simp [TV.cells] at hu <;> subst hu <;> assumption
  obtain ⟨l,hl,hq⟩:=zX key;have hall:∀ q ∈ l,(Ints W q.A q.n q.t.stops/\Ints W q.A' q.n' q.t.times)/\q.n<=q.c/\q.n'<=q.c':=λq hq'=>by
   obtain ⟨i,hi⟩:=List.mem_iff_getElem?.1 hq';exact (hq i q hi).1
  exact ⟨_,_,_,l,rfl,⟨⟨hl.symm,by rw [tH TV.cells 4 (λ_=>rfl),hl],λ_=>⟨a,rfl,QK TV.cells 4 (λ_=>rfl) (by omega) λi q hi=>(hq i q hi).2⟩⟩,λq h=>(hall q h).1⟩,hlc,λq h=>(hall q h).2⟩
theorem afv {fuel:Nat} {v:Value} {x:DataW H × List MemPlace} (hf:DataW.trod enc Tryz.prog W b0 spare held fuel 28 [v] = some x):∃ A n c l,v=.slice A n c/\iZ W A n l/\n<=c/\∀ q ∈ l,q.vn<=q.vc:=by
 rcases zZ Tryz.underlying28 Tryz.underlying90 (by kernel_rfl) (by kernel_rfl) hf with ⟨hcs,_⟩ | ⟨a,len,cap,m,D,Pl,hcs,_,hlc,_,hm,_,hcell⟩
 ·simp at hcs;subst hcs;exact ⟨none,0,0,[],rfl,⟨⟨rfl,rfl,λh0=>absurd h0 (by omega)⟩,λq hq=>by cases hq⟩,zG _,λq hq=>by cases hq⟩
 ·simp at hcs;subst hcs;have hlm:len<=m:=by rw [hm];split <;> omega
  have key:∀ i,i < len->∃ q:BV,((Ints W q.V q.vn q.v/\gY W q.LA q.ln q.lb)/\q.vn<=q.vc)/\∀ j u,(BV.cells q)[j]? = some u->W.cell? (a.add (i * 3 + j))=some u:=by
   intro i hi;obtain ⟨ys,n,_,_,_,hfld⟩:=hcell i (by omega);obtain ⟨v0,y0,d0,_,t0⟩:=hfld 0 _ rfl;obtain ⟨v1,y1,d1,_,t1⟩:=hfld 1 _ rfl;obtain ⟨v2,y2,d2,_,t2⟩:=hfld 2 _ rfl;obtain ⟨n0,e0,_⟩:=DataW.trod_int Tryz.underlying3 t0;obtain ⟨A1,m1,c1,l1,rfl,hI1,hc1⟩:=Gx t1;obtain ⟨A2,m2,c2,l2,rfl,hI2⟩:=aiA t2;simp at e0;subst e0;refine ⟨⟨n0,A1,m1,c1,l1,A2,m2,c2,l2⟩,⟨⟨hI1,hI2⟩,hc1⟩,?_⟩;intro j u hu;rcases j with _ | _ | _ | j <;> simp [BV.cells] at hu <;> subst hu <;> assumption
  obtain ⟨l,hl,hq⟩:=zX key;have hall:∀ q ∈ l,(Ints W q.V q.vn q.v/\gY W q.LA q.ln q.lb)/\q.vn<=q.vc:=λq hq'=>by
   obtain ⟨i,hi⟩:=List.mem_iff_getElem?.1 hq';exact (hq i q hi).1
  exact ⟨_,_,_,l,rfl,⟨⟨hl.symm,by rw [tH BV.cells 3 (λ_=>rfl),hl],λ_=>⟨a,rfl,QK BV.cells 3 (λ_=>rfl) (by omega) λi q hi=>(hq i q hi).2⟩⟩,λq h=>(hall q h).1⟩,hlc,λq h=>(hall q h).2⟩
end
end
end Go.Proofs.YtippdjmpkafifaaGreat
