import Derived.Test.YtippdjmpkafifaaGreatCT15
import Derived.Test.YtippdjmpkafifaaGreatCT13
import Derived.Deep.AppendLies
import Derived.Deep.RegionLaw
import Derived.Test.YtippdjmpkafifaaGreatCT21
import Derived.Deep.Slices
import Derived.Deep.Fields
import Derived.ChangeSame
import Derived.ProofKit
import Derived.OpenShut
import Derived.Test.YtippdjmpkafifaaGreatCT1
import Derived.Test.YtippdjmpkafifaaGreatCT4
import Derived.Test.YtippdjmpkafifaaGreatCT6
import Derived.Test.YtippdjmpkafifaaGreatCT12
import Derived.Test.YtippdjmpkafifaaGreatCT14
set_option maxRecDepth 100000
set_option maxHeartbeats 64000000
namespace Go.Proofs.YtippdjmpkafifaaGreat
open Go.RowKit
def K.iC (A:Option Addr) (c:Nat) (k:Int):S:=⟨1,0,0,60,0,A,1,c,[k]⟩
def acu (x:Cs):Prop:=∃ A c A1 c1 A2 c2 SA sc B d,x=⟨2,A,2,c,K.dD,SA,2,sc,[K.iC A1 c1 5,K.iC A2 c2 2],B,3,d,[K.bQ 4,K.bQ 2,K.bQ 1]⟩
structure Gh (w W0 wr:World) (k:Nat) (v:Value):Prop where
 row:wr.ownsRow W0.heap.size 47 7 v k (((([4,2,1]:List Int).take k).map K.bQ).flatMap Q.cells)
 box:wr.heap[w.heap.size + 1 + 1]? = some (.cells #[.int .i64 2,.slice (some ⟨w.heap.size + 1,0,none⟩) 2 2,.slice (some ⟨w.heap.size + 1 + 1 + 1 + 1 + 1,0,none⟩) 2 2,v] 44 (0,0))
 keep:∀ g,g < W0.heap.size->g ≠ w.heap.size + 1 + 1->wr.heap[g]? = W0.heap[g]?
 size:W0.heap.size<=wr.heap.size
 bw:Below w.heap.size w wr
theorem Gh.next {w W0 wr w4:World} {k g4 cap4:Nat} {v:Value} {o:Obj} {z:Int} (h:Gh w W0 wr k v) (zi:W0.heap.size=w.heap.size + 7) (hg:(wr.alloc o).drew.grownBy w4 v.ownBlock)
  (ho:w4.ownsRow W0.heap.size 47 7 (.slice (some ⟨g4,0,none⟩) (k + 1) cap4) (k + 1) (((([4,2,1]:List Int).take k).map K.bQ).flatMap Q.cells ++ (K.bQ z).cells)) (hr:(([4,2,1]:List Int).take (k + 1)).map K.bQ=(([4,2,1]:List Int).take k).map K.bQ ++ [K.bQ z]) :
  Gh w W0 (w4.setCell ⟨w.heap.size + 1 + 1,3,none⟩ (.slice (some ⟨g4,0,none⟩) (k + 1) cap4)) (k + 1) (.slice (some ⟨g4,0,none⟩) (k + 1) cap4):=by
 have hin:=bG h.row;have akA:=bG ho g4 rfl;have hsz:=h.size;have hw1:Below wr.heap.size wr (wr.alloc o).drew:=((Below.refl _ _).alloc (zG _) o).drew;have ne1:some (w.heap.size + 1 + 1) ≠ v.ownBlock:=λe=>by have:=(hin _ e.symm).1;omega
 have jP:=eX hg (az hw1 h.box) ne1;refine ⟨?_,bg jP 3 _,λg hg1 hg2=>?_,?_,?_⟩
 ·rw [hr,List.flatMap_append,List.flatMap_singleton];exact ownsRow_setCell_other ho (a:=⟨w.heap.size + 1 + 1,3,none⟩) (show (some g4:Option Nat) ≠ some (w.heap.size + 1 + 1) from λe=>by injection e with e;omega) _
 ·refine (Below.heap_setCell w4 _ _ g hg2).trans ((hg.block g ?_ λe=>?_).trans ((hw1.block g (by omega)).trans (h.keep g hg1 hg2)))
  ·have:=hw1.size;omega
  ·have:=(hin g e.symm).1;omega
 ·rw [World.size_setCell];have:=hw1.size;have:=hg.size;omega
 ·exact ((bel h.bw hw1).grown hg (Nat.le_trans h.bw.size hw1.size) (λg e=>by have:=(hin g e).1;omega)).setCell (show w.heap.size<=w.heap.size + 1 + 1 by omega) _
theorem Ar (w:World):Calls Tryz.prog 105 #[] w λe w'=>(∃ x,acu x/\bF w' x/\e=.returned (.agg #[.int .i64 x.nd,.slice x.A x.n x.c,.slice x.SA x.sn x.sc,.slice x.B x.m x.d]))/\Below w.heap.size w w':=by
 go_enter Tryz.func105,Tryz.ntmps105;go_wp2_with fail;obtain ⟨l7,rX⟩:∃ l7:List Obj,l7=[.cells #[.int .i64 0,.slice none 0 0,.slice none 0 0,.slice none 0 0] 44,.cells #[.int .i64 0,.int .i64 1,.int .i64 10,.int .i64 (-1),.int .i64 1,.int .i64 0,.int .i64 10,.int .i64 (-1)] 134,.cells #[.int .i64 2,.slice (some ⟨w.heap.size + 1,0,none⟩) 2 2,.slice (some ⟨w.heap.size + 1 + 1 + 1 + 1 + 1,0,none⟩) 2 2,.slice none 0 0] 44,.cells #[.int .i64 5] 3,.cells #[.int .i64 2] 3,.cells #[.int .i64 1,.int .i64 0,.int .i64 0,.int .i64 60,.int .i64 0,.slice (some ⟨w.heap.size + 1 + 1 + 1,0,none⟩) 1 1,.int .i64 1,.int .i64 0,.int .i64 0,.int .i64 60,.int .i64 0,.slice (some ⟨w.heap.size + 1 + 1 + 1 + 1,0,none⟩) 1 1] 63,.cells #[.int .i64 4,.int .i64 2,.int .i64 1] 3]:=⟨_,rfl⟩;obtain ⟨W0,hW0⟩:=zB (lq w l7);have hb:=lq.below l7 w;have g:=lq.get l7 w;have hz:=lq.size l7 w;rw [<-hW0] at hb g hz;have e0:W0.heap[w.heap.size]? = some (.cells #[.int .i64 0,.slice none 0 0,.slice none 0 0,.slice none 0 0] 44 (0,0)):=g 0 _ (by rw [rX];rfl);have e1:W0.heap[w.heap.size + 1]? = some (.cells #[.int .i64 0,.int .i64 1,.int .i64 10,.int .i64 (-1),.int .i64 1,.int .i64 0,.int .i64 10,.int .i64 (-1)] 134 (0,0)):=g 1 _ (by rw [rX];rfl);have e2:W0.heap[w.heap.size + 1 + 1]? = some (.cells #[.int .i64 2,.slice (some ⟨w.heap.size + 1,0,none⟩) 2 2,.slice (some ⟨w.heap.size + 1 + 1 + 1 + 1 + 1,0,none⟩) 2 2,.slice none 0 0] 44 (0,0)):=g 2 _ (by rw [rX];rfl);have e3:W0.heap[w.heap.size + 1 + 1 + 1]? = some (.cells #[.int .i64 5] 3 (0,0)):=g 3 _ (by rw [rX];rfl);have e4:W0.heap[w.heap.size + 1 + 1 + 1 + 1]? = some (.cells #[.int .i64 2] 3 (0,0)):=g 4 _ (by rw [rX];rfl);have e5:W0.heap[w.heap.size + 1 + 1 + 1 + 1 + 1]? = some (.cells #[.int .i64 1,.int .i64 0,.int .i64 0,.int .i64 60,.int .i64 0,.slice (some ⟨w.heap.size + 1 + 1 + 1,0,none⟩) 1 1,.int .i64 1,.int .i64 0,.int .i64 0,.int .i64 60,.int .i64 0,.slice (some ⟨w.heap.size + 1 + 1 + 1 + 1,0,none⟩) 1 1] 63 (0,0)):=g 5 _ (by rw [rX];rfl);have e6:W0.heap[w.heap.size + 1 + 1 + 1 + 1 + 1 + 1]? = some (.cells #[.int .i64 4,.int .i64 2,.int .i64 1] 3 (0,0)):=g 6 _ (by rw [rX];rfl);have zi:W0.heap.size=w.heap.size + 7:=by rw [hz,rX];rfl
 rw [rX] at hW0;simp only [lq] at hW0;rw [<-hW0];obtain ⟨MW,I5⟩:∃ ad:Addr,ad=⟨w.heap.size + 1 + 1 + 1 + 1 + 1 + 1,0,none⟩:=⟨_,rfl⟩;rw [<-I5];have hI0:Ints W0 (some MW) 3 [4,2,1]:=by
  rw [I5];exact ⟨rfl,Rd.of_block (cs:=(intCells [4,2,1]).toArray) e6 1 3 rfl⟩
 have hkb:MW.block=w.heap.size + 1 + 1 + 1 + 1 + 1 + 1:=by rw [I5]
 clear g hz rX hW0 I5;go_loopw [3] (λv3 wr=>∃ (k:Nat) (v:Value),v3=.int .i64 k/\k<=3/\Gh w W0 wr k v) (λv3 _=>3 - (intOf v3).toNat)
 case atStart=>exact ⟨0,.slice none 0 0,rfl,by omega,⟨World.ownsRow_nil _ _ _ _,e2,λ_ _ _=>rfl,zG _,hb⟩⟩
 case round =>
  obtain ⟨k,v,rfl,hk,hE⟩:=hrel;have IC:Ints wr (some MW) 3 [4,2,1]:=⟨rfl,hI0.2.sm λg hg _=>by
   obtain ⟨-,ad,e,rfl⟩:=hg;injection e with e;rw [<-e];exact hE.keep _ (by omega) (by omega)⟩
  by_cases hlt:k < 3
  ·obtain ⟨ad,z,he,hx,c0⟩:=IC.at_ hlt;injection he with he;subst he;have HZ:=zC (show (([4,2,1]:List Int).take (k + 1)).map K.bQ=(([4,2,1]:List Int).take k).map K.bQ ++ [K.bQ z] by rw [take_snoc hx,List.map_append,List.map_singleton]);have hk0:(0:Int)<=(k:Int):=by omega
   have hk1:(k:Int) < 3:=by omega
   have hV:=hE.box;have hown:=hE.row;have hsz:=hE.size;have v3:=af hV 3 _ rfl;have vf:=gI hV;have Fp:(wr.alloc (.cells #[.int .i64 1,.int .i64 0,.int .i64 z,.int .i64 5,.int .i64 1,.int .i64 1,.slice none 0 0] 47)).drew.ownsRow W0.heap.size 47 7 v k (((([4,2,1]:List Int).take k).map K.bQ).flatMap Q.cells):=hown.alloc _;have hnw:=heap_alloc_new wr (.cells #[.int .i64 1,.int .i64 0,.int .i64 z,.int .i64 5,.int .i64 1,.int .i64 1,.slice none 0 0] 47);have new1:∀ (j:Nat) (u:Value),((K.bQ z).cells)[j]? = some u->(wr.alloc (.cells #[.int .i64 1,.int .i64 0,.int .i64 z,.int .i64 5,.int .i64 1,.int .i64 1,.slice none 0 0] 47)).drew.cell? ((⟨wr.heap.size,0,none⟩:Addr).add j)=some u:=λj u hu=>by
    rw [jy];exact af (w:=(wr.alloc (.cells #[.int .i64 1,.int .i64 0,.int .i64 z,.int .i64 5,.int .i64 1,.int .i64 1,.slice none 0 0] 47)).drew) hnw j u (by simpa [K.bQ,Q.cells] using hu)
   have one1:=uQ (K.bQ z);have ne1:some (w.heap.size + 1 + 1) ≠ v.ownBlock:=λe=>by have:=(hown.lt _ e.symm).1;omega
   have acI:(wr.alloc (.cells #[.int .i64 1,.int .i64 0,.int .i64 z,.int .i64 5,.int .i64 1,.int .i64 1,.slice none 0 0] 47)).drew.heap[w.heap.size + 1 + 1]? = some (.cells #[.int .i64 2,.slice (some ⟨w.heap.size + 1,0,none⟩) 2 2,.slice (some ⟨w.heap.size + 1 + 1 + 1 + 1 + 1,0,none⟩) 2 2,v] 44 (0,0)):=bu hV _;have v3a:(wr.alloc (.cells #[.int .i64 1,.int .i64 0,.int .i64 z,.int .i64 5,.int .i64 1,.int .i64 1,.slice none 0 0] 47)).cell? ⟨w.heap.size + 1 + 1,3,none⟩=some v:=af (bu hV _) 3 _ rfl;have le1:k + 1<=maxLen:=by simp only [maxLen];omega
   have EU:(k + 1) * 72<=140737488355328:=by omega
   have EW:W0.heap.size<=(wr.alloc (.cells #[.int .i64 1,.int .i64 0,.int .i64 z,.int .i64 5,.int .i64 1,.int .i64 1,.slice none 0 0] 47)).drew.heap.size:=by
    show _<=(wr.alloc _).heap.size;rw [World.size_alloc];omega
   obtain ⟨i0,hi,hz0,hz1,hz2⟩:=info_parts yu;clear hx;go_wp2_with fail;go_region_law (apply step_append_lies (hgd:=rfl) (s:=.tmp 23) (x:=.tmp 29) (t:=26) (ho:=rfl) (base:=W0.heap.size) (e:=47) (i:=i0) (z:=(.agg #[.int .i64 0,.int .i64 0,.int .i64 0,.int .i64 0,.int .i64 0,.int .i64 0,.slice none 0 0])) (size:=7) (bytes:=72) (ht:=Tryz.underlying26) (hi:=hi) (hz:=hz0) (hsize:=hz1) (hby:=hz2) (hzs:=rfl) (hsz:=by decide) (v:=v) (n:=k) (xs:=((([4,2,1]:List Int).take k).map K.bQ).flatMap Q.cells) (ad:=⟨wr.heap.size,0,none⟩) (m:=1) (c:=1) (news:=(K.bQ z).cells) (hm:=Nat.one_pos) (h63:=le1) (hbytes:=EU) (hs:=rfl) (hown:=Fp) (hx:=rfl) (hl:=rfl) (hnews:=new1) (h1:=one1) (hbase:=EW) (hH:=rfl);intro g4 cap4 w4 hown4 hgrow4 hlies hlt4;have jP:=eX hgrow4 acI ne1;have vf4:=gI jP;have v34:=af jP 3 _ rfl)
   all_goals go_wp2_with fail
   all_goals exact ⟨⟨k + 1,_,by push_cast;rfl,by omega,hE.next zi hgrow4 hown4 HZ.out⟩,by simp [intOf];omega⟩
  ·have hk3:k=3:=by omega
   subst hk3;have hr0:wr.heap[w.heap.size]? = some (.cells #[.int .i64 0,.slice none 0 0,.slice none 0 0,.slice none 0 0] 44 (0,0)):=(hE.keep _ (by omega) (by omega)).trans e0;have hV:=hE.box;obtain ⟨BA,bc,rfl,jm,uk⟩:=dh hE.row;have r0:=af hV 0 _ rfl;have r1:=af hV 1 _ rfl;have r2:=af hV 2 _ rfl;have r3:=af hV 3 _ rfl;have rf:=gI hr0;have rf0:=rf 0;have rf1:=rf 1;have rf2:=rf 2;have rf3:=rf 3;have q0:=af hr0 0 _ rfl;have q1:=af hr0 1 _ rfl;have q2:=af hr0 2 _ rfl;have q3:=af hr0 3 _ rfl;go_wp2_with fail;have Xq:=bg (bg (bg (bg hr0 0 (.int .i64 2)) 1 (.slice (some ⟨w.heap.size + 1,0,none⟩) 2 2)) 2 (.slice (some ⟨w.heap.size + 1 + 1 + 1 + 1 + 1,0,none⟩) 2 2)) 3 (.slice BA 3 bc);have hbz:Below w.heap.size w ((((wr.setCell ⟨w.heap.size,0,none⟩ (.int .i64 2)).setCell ⟨w.heap.size,1,none⟩ (.slice (some ⟨w.heap.size + 1,0,none⟩) 2 2)).setCell ⟨w.heap.size,2,none⟩ (.slice (some ⟨w.heap.size + 1 + 1 + 1 + 1 + 1,0,none⟩) 2 2)).setCell ⟨w.heap.size,3,none⟩ (.slice BA 3 bc)):=jM hE.bw (zG _) _ _ _ _;have hkp:∀ g,g ≠ w.heap.size->((((wr.setCell ⟨w.heap.size,0,none⟩ (.int .i64 2)).setCell ⟨w.heap.size,1,none⟩ (.slice (some ⟨w.heap.size + 1,0,none⟩) 2 2)).setCell ⟨w.heap.size,2,none⟩ (.slice (some ⟨w.heap.size + 1 + 1 + 1 + 1 + 1,0,none⟩) 2 2)).setCell ⟨w.heap.size,3,none⟩ (.slice BA 3 bc)).heap[g]? = wr.heap[g]?:=λg hne =>
    (Below.heap_setCell _ _ _ g hne).trans ((Below.heap_setCell _ _ _ g hne).trans ((Below.heap_setCell _ _ _ g hne).trans (Below.heap_setCell _ _ _ g hne)))
   obtain ⟨W4,hW⟩:=zB ((((wr.setCell ⟨w.heap.size,0,none⟩ (.int .i64 2)).setCell ⟨w.heap.size,1,none⟩ (.slice (some ⟨w.heap.size + 1,0,none⟩) 2 2)).setCell ⟨w.heap.size,2,none⟩ (.slice (some ⟨w.heap.size + 1 + 1 + 1 + 1 + 1,0,none⟩) 2 2)).setCell ⟨w.heap.size,3,none⟩ (.slice BA 3 bc));rw [<-hW] at Xq hbz hkp ⊢;have x1:=(hkp (w.heap.size + 1) (by omega)).trans ((hE.keep _ (by omega) (by omega)).trans e1);have x3:=(hkp (w.heap.size + 1 + 1 + 1) (by omega)).trans ((hE.keep _ (by omega) (by omega)).trans e3);have x4:=(hkp (w.heap.size + 1 + 1 + 1 + 1) (by omega)).trans ((hE.keep _ (by omega) (by omega)).trans e4);have x5:=(hkp (w.heap.size + 1 + 1 + 1 + 1 + 1) (by omega)).trans ((hE.keep _ (by omega) (by omega)).trans e5);refine bodyPost_ret_by (v:=.agg #[.int .i64 2,.slice (some ⟨w.heap.size + 1,0,none⟩) 2 2,.slice (some ⟨w.heap.size + 1 + 1 + 1 + 1 + 1,0,none⟩) 2 2,.slice BA 3 bc]) (results_cell_row rfl _ W4 w.heap.size 44 _ (0,0) _ rfl Xq Tryz.underlying44 rfl (by kernel_rfl)) rfl ?_;refine ⟨⟨⟨2,some ⟨w.heap.size + 1,0,none⟩,2,2,K.dD,some ⟨w.heap.size + 1 + 1 + 1 + 1 + 1,0,none⟩,2,2,[K.iC (some ⟨w.heap.size + 1 + 1 + 1,0,none⟩) 1 5,K.iC (some ⟨w.heap.size + 1 + 1 + 1 + 1,0,none⟩) 1 2],BA,3,bc,[K.bQ 4,K.bQ 2,K.bQ 1]⟩,⟨_,_,_,_,_,_,_,_,_,_,rfl⟩,?_,rfl⟩,hbz⟩;have hRq:Rd W4 7 BA 3 (([K.bQ 4,K.bQ 2,K.bQ 1]).flatMap Q.cells):=jm.sm λg hg _=>by
    obtain ⟨-,ad,e,rfl⟩:=hg;have:=(uk ad.block (by rw [e];rfl)).1;exact hkp _ (by omega)
   refine ⟨⟨rfl,Rd.of_block (cs:=(K.dD.flatMap qF).toArray) x1 4 2 rfl⟩,⟨⟨rfl,Rd.of_block (cs:=([K.iC (some ⟨w.heap.size + 1 + 1 + 1,0,none⟩) 1 5,K.iC (some ⟨w.heap.size + 1 + 1 + 1 + 1,0,none⟩) 1 2].flatMap S.cells).toArray) x5 6 2 rfl⟩,λs hs=>?_⟩,⟨rfl,by rw [xw];exact hRq,λq hq=>?_⟩,(by decide:(2:Nat)<=1000000000),λs hs=>?_,(by decide:(2:Nat)<=1000000000),(by decide:(3:Nat)<=1000000000),λq hq=>?_⟩
   ·rcases List.mem_cons.1 hs with rfl | hs
    ·exact ⟨rfl,Rd.of_block (cs:=(intCells [5]).toArray) x3 1 1 rfl⟩
    ·rw [List.mem_singleton.1 hs];exact ⟨rfl,Rd.of_block (cs:=(intCells [2]).toArray) x4 1 1 rfl⟩
   ·have h9:q.n=0/\q.l=[]:=by
     rcases List.mem_cons.1 hq with rfl | hq
     ·exact ⟨rfl,rfl⟩
     ·rcases List.mem_cons.1 hq with rfl | hq
      ·exact ⟨rfl,rfl⟩
      ·rw [List.mem_singleton.1 hq];exact ⟨rfl,rfl⟩
    rw [h9.1,h9.2];exact ⟨rfl,rfl,λh=>absurd h (by decide)⟩
   ·rcases List.mem_cons.1 hs with rfl | hs
    ·exact (by decide:(1:Nat)<=1000000000)
    ·rw [List.mem_singleton.1 hs];exact (by decide:(1:Nat)<=1000000000)
   ·rcases List.mem_cons.1 hq with rfl | hq
    ·exact Nat.zero_le _
    ·rcases List.mem_cons.1 hq with rfl | hq
     ·exact Nat.zero_le _
     ·rw [List.mem_singleton.1 hq];exact Nat.zero_le _
namespace K
def d_ (A1:Option Addr) (c1:Nat) (A2:Option Addr) (c2:Nat):List S:=[iC A1 c1 5,iC A2 c2 2]
def fG:List Q:=[bQ 4,bQ 2,bQ 1]
section
variable (A1 : Option Addr) (c1 : Nat) (A2 : Option Addr) (c2 : Nat)
theorem YV:dM 2 dD (d_ A1 c1 A2 c2) fG [] = 0/\(cZ 2 dD (d_ A1 c1 A2 c2) fG []).1.kept=[0,1,2]/\(cZ 2 dD (d_ A1 c1 A2 c2) fG []).1.dG.map (λt=>t.2.end_)=[30,25]/\(cZ 2 dD (d_ A1 c1 A2 c2) fG []).1.reasons.length=0/\(cZ 2 dD (d_ A1 c1 A2 c2) fG []).2=0:=by
 refine ⟨?_,?_,?_,?_,?_⟩ <;> kernel_rfl
theorem af6:dM 2 dD (d_ A1 c1 A2 c2) fG [1] = 0/\(cZ 2 dD (d_ A1 c1 A2 c2) fG [1]).1.kept=[0,2]:=by
 refine ⟨?_,?_⟩ <;> kernel_rfl
theorem Qq:dM 2 dD (d_ A1 c1 A2 c2) fG [0] = 0/\(cZ 2 dD (d_ A1 c1 A2 c2) fG [0]).1.kept=[1]:=by
 refine ⟨?_,?_⟩ <;> kernel_rfl
theorem af7:dM 2 dD (d_ A1 c1 A2 c2) fG [0,1] = 0/\(cZ 2 dD (d_ A1 c1 A2 c2) fG [0,1]).1.kept=[]:=by
 refine ⟨?_,?_⟩ <;> kernel_rfl
theorem af8:dM 2 dD (d_ A1 c1 A2 c2) fG [1,0] = 1:=by kernel_rfl
theorem af9:jV 2 dD (d_ A1 c1 A2 c2) fG [0] = [iC A2 c2 2]:=by
 unfold jV;rw [if_pos (Qq A1 c1 A2 c2).1];rfl
end
end K
namespace K
section
variable {nd : Int} {l : List Ro} {ss ss' : List S} {r : List Q} {lost : List Int}
theorem J9:∀ (ss:List S) (i:Nat),(dN lost i ss).map S.bare=dN lost i (ss.map S.bare)
 | [],_=>rfl
 | s :: ss,i=>by
  rw [dN,List.map_cons,dN];split
  ·exact J9 ss (i + 1)
  ·rw [List.map_cons,J9 ss (i + 1)]
theorem YZ (g:ss'.map S.bare=ss.map S.bare):∀ (r:List Q) (i:Nat) (k:Kp),iR nd l ss' i r k=iR nd l ss i r k
 | [],_,_=>rfl
 | x :: r,i,k=>by
  have h1:lm nd l ss' i x k=lm nd l ss i x k:=by
   unfold lm kL;rw [JZ (r':=k.served ++ [x]) rfl g,Rf (r':=k.served ++ [x]) rfl g]
  rw [iR,iR,h1,YZ g r]
theorem aip (g:ss'.map S.bare=ss.map S.bare):dM nd l ss' r lost=dM nd l ss r lost:=by
 have h1:ss'.length=ss.length:=by rw [<-List.length_map (f:=S.bare),g,List.length_map]
 unfold dM;rw [h1,<-Fv (ss:=ss'),<-Fv (ss:=ss),g]
theorem YX (g:ss'.map S.bare=ss.map S.bare):cZ nd l ss' r lost=cZ nd l ss r lost:=by
 unfold cZ;rw [aip g,YZ (ss':=dN lost 0 ss') (ss:=dN lost 0 ss) (by rw [J9,J9,g])]
theorem af_ (h:dM nd l ss r lost=0):(cZ nd l ss r lost).2=0:=by unfold cZ;rw [if_pos h]
end
end K
theorem Qu (LA:Option Addr) (ln lc:Nat) (lost:List Int) (WA:Option Addr) (wn wc:Nat) (want:List Int) (w:World) (hL:Ints w LA ln lost) (hW:Ints w WA wn want) (hln:ln<=1000000000) (hwn:wn<=1000000000)
  (h0:∀ A1 c1 A2 c2,K.dM 2 K.dD (K.d_ A1 c1 A2 c2) K.fG lost=0/\(K.cZ 2 K.dD (K.d_ A1 c1 A2 c2) K.fG lost).1.kept=want) :
  Calls Tryz.prog 106 #[.slice LA ln lc,.slice WA wn wc] w λe w'=>e=.returned (.bool true)/\Below w.heap.size w w':=by
 go_enter Tryz.func106,Tryz.ntmps106;go_wp2_with fail;refine (Ar w).mono ?_;rintro e w1 ⟨⟨x,hE,hx,rfl⟩,b1⟩;obtain ⟨A,c,A1,c1,A2,c2,SA,sc,B,d,rfl⟩:=hE;have CK:=Qr ⟨2,A,2,c,K.dD,SA,2,sc,[K.iC A1 c1 5,K.iC A2 c2 2],B,3,d,[K.bQ 4,K.bQ 2,K.bQ 1]⟩ LA ln lc lost w1 hx (hL.below b1) hln (by decide:(2:Nat)<=1000000) (λs hs=>by
  rcases List.mem_cons.1 hs with rfl | hs
  ·exact (by decide:(1:Nat)<=1000000)
  ·rw [List.mem_singleton.1 hs];exact (by decide:(1:Nat)<=1000000))
 obtain ⟨kk,hkk⟩:=zB (K.cZ 2 K.dD (K.d_ A1 c1 A2 c2) K.fG lost);change Calls Tryz.prog 47 _ w1 λe w'=>GV w1 w' (K.cZ 2 K.dD (K.d_ A1 c1 A2 c2) K.fG lost).1 (K.cZ 2 K.dD (K.d_ A1 c1 A2 c2) K.fG lost).2 e at CK;rw [K.af_ (h0 A1 c1 A2 c2).1,<-hkk] at CK;have hkw:kk.1.kept=want:=by rw [hkk];exact (h0 A1 c1 A2 c2).2
 have HKK:=zC hkk;clear hkk;go_wp2_with fail;refine CK.mono ?_;rintro e w2 ⟨⟨KA,kn,kc,RA,rn,rc,dd,rfl,hK,hT,hcap,lN,hts,hR,ny,hrs⟩,b2⟩;have hb2:=bel b1 b2;have hkn:kn<=1000000000:=by rw [hK.1,hkw,<-hW.1];exact hwn
 have CS:=BZ KA WA kn wn kc wc kk.1.kept want w2 hK (hW.below hb2) hkn hwn;rw [hkw,zH rfl] at CS;clear CK b1;go_wp2_with fail;refine CS.mono ?_;rintro e w3 ⟨rfl,b3⟩;have hb3:=bel hb2 b3;clear CS;go_wp2_with fail;refine (Ar w3).mono ?_;rintro e w4 ⟨⟨x',hE',hx',rfl⟩,b4⟩;obtain ⟨A',c',Cf,c1',Ci,c2',SA',sc',B',d',rfl⟩:=hE';have Ah:=bel b3 b4;have hb4:=bel hb3 b4;have CC:=aaB ⟨2,A',2,c',K.dD,SA',2,sc',[K.iC Cf c1' 5,K.iC Ci c2' 2],B',3,d',[K.bQ 4,K.bQ 2,K.bQ 1]⟩ LA ln lc lost KA kn kc kk.1.kept dd.TA dd.tn dd.tc dd.ts RA rn rc dd.L w4 hx' (hL.below hb4) (hK.below Ah) (hT.below Ah) (hR.below Ah) hln hkn lN hcap.2 ny (by decide:(2:Nat)<=1000000) (λs hs=>by
  rcases List.mem_cons.1 hs with rfl | hs
  ·exact (by decide:(1:Nat)<=1000000)
  ·rw [List.mem_singleton.1 hs];exact (by decide:(1:Nat)<=1000000))
 have hck:K.lU 2 K.dD (K.d_ Cf c1' Ci c2') K.fG lost kk.1.kept (dd.ts.map TV.pr) (dd.L.map RV.pr)=true:=by
  rw [hts,hrs,HKK.out,K.YX (ss':=K.d_ A1 c1 A2 c2) (ss:=K.d_ Cf c1' Ci c2') rfl];exact K.Y0 (by decide:(2:Nat)<=4) (by decide:(3:Nat)<=4) (h0 Cf c1' Ci c2').1
 change Calls Tryz.prog 53 _ w4 λe w'=>e=.returned (.bool (K.lU 2 K.dD (K.d_ Cf c1' Ci c2') K.fG lost kk.1.kept (dd.ts.map TV.pr) (dd.L.map RV.pr)))/\Below w4.heap.size w4 w' at CC;rw [hck] at CC;go_wp2_with fail;refine CC.mono ?_;rintro e w5 ⟨rfl,b5⟩;go_wp2_with fail;go_ret;exact ⟨rfl,bel hb4 b5⟩
theorem Kz {A1 A2:Option Addr} {c1 c2:Nat}:∀ s ∈ [K.iC A1 c1 5,K.iC A2 c2 2],s.n<=1000000:=λs hs=>by
 rcases List.mem_cons.1 hs with rfl | hs
 ·exact (by decide:(1:Nat)<=1000000)
 ·rw [List.mem_singleton.1 hs];exact (by decide:(1:Nat)<=1000000)
theorem ai8 (w:World):Calls Tryz.prog 42 #[] w λe w'=>e=.returned (.bool true)/\Below w.heap.size w w':=by
 go_enter Tryz.func42,Tryz.ntmps42;go_wp2_with fail;refine (Ar w).mono ?_;rintro e w1 ⟨⟨x,hE,hx1,rfl⟩,b1⟩;obtain ⟨A1,c1,E1,k1,F1,m1,SA1,sc1,B1,d1,rfl⟩:=hE;have CK:=Qr ⟨2,A1,2,c1,K.dD,SA1,2,sc1,[K.iC E1 k1 5,K.iC F1 m1 2],B1,3,d1,[K.bQ 4,K.bQ 2,K.bQ 1]⟩ none 0 0 [] w1 hx1 (gK _) (by decide) (by decide:(2:Nat)<=1000000) Kz;have hE0:=K.YV E1 k1 F1 m1;obtain ⟨kk,hkk⟩:=zB (K.cZ 2 K.dD (K.d_ E1 k1 F1 m1) K.fG []);change Calls Tryz.prog 47 _ w1 λe w'=>GV w1 w' (K.cZ 2 K.dD (K.d_ E1 k1 F1 m1) K.fG []).1 (K.cZ 2 K.dD (K.d_ E1 k1 F1 m1) K.fG []).2 e at CK;rw [<-hkk] at hE0 CK;obtain ⟨g0,g1,g2,g3,g4⟩:=hE0;rw [g4] at CK;have HKK:=zC hkk;clear hkk g4;go_wp2_with fail;refine CK.mono ?_;rintro e w2 ⟨⟨KA,kn,kc,RA,rn,rc,dd,rfl,hK,hT,hcap,lN,hts,hR,ny,hrs⟩,b2⟩;obtain ⟨dk,L,TA,tn,tc,ts,dSA,dsn,dsc,dsv⟩:=dd;dsimp only at hT hcap lN hts hR ny hrs ⊢;have hb2:=bel b1 b2;have uC:ts.map (λy=>y.t.end_)=[30,25]:=by rw [<-g2,<-hts,List.map_map];rfl
 obtain rfl:kn=3:=by have h:=hK.1;rw [g1] at h;exact h
 obtain rfl:tn=2:=by
  have h1:=hT.1.1;have h2:=congrArg List.length uC;rw [List.length_map] at h2;exact h1.trans h2
 obtain rfl:rn=0:=by
  have h1:=hR.1.1;have h2:=congrArg List.length hrs;rw [List.length_map,g3] at h2;exact h1.trans h2
 have SN:=zC uC;have S_:=zC g1;have iT:=zC hts;have Mc:=zC hrs;clear CK g0 g1 g2 g3 uC hts hrs b1 b2;go_wp2_with fail;refine (Ar w2).mono ?_;rintro e w3 ⟨⟨x,hE,hx2,rfl⟩,b3⟩;obtain ⟨A2,c2,E2,k2,F2,m2,SA2,sc2,B2,d2,rfl⟩:=hE;have CR:=FK ⟨2,A2,2,c2,K.dD,SA2,2,sc2,[K.iC E2 k2 5,K.iC F2 m2 2],B2,3,d2,[K.bQ 4,K.bQ 2,K.bQ 1]⟩ (some ⟨w3.heap.size,0,none⟩) 2 2 [1,0] (w3.alloc (.cells #[.int .i64 1,.int .i64 0] 3)) (hx2.below ((Below.refl _ _).alloc (zG _) _)) (zk w3 [1,0]) (by decide) (by decide:(2:Nat)<=1000000) Kz;change Calls Tryz.prog 45 _ (w3.alloc (.cells #[.int .i64 1,.int .i64 0] 3)) λe w'=>Dl (w3.alloc (.cells #[.int .i64 1,.int .i64 0] 3)) w' (K.jV 2 K.dD (K.d_ E2 k2 F2 m2) K.fG [1,0]) (K.dM 2 K.dD (K.d_ E2 k2 F2 m2) K.fG [1,0]) e at CR;rw [K.af8] at CR;have wG:Below w3.heap.size w3 (w3.alloc (.cells #[.int .i64 1,.int .i64 0] 3)):=(Below.refl _ _).alloc (zG _) _;go_wp2_with fail;refine CR.mono ?_;rintro e w4 ⟨⟨PA,pn,pc,PL,rfl,-,-⟩,b4⟩;have Ah:=bel b3 (bel wG b4);clear CR wG b3 b4;go_wp2_with fail;refine (Ar w4).mono ?_;rintro e w5 ⟨⟨x,hE,hx3,rfl⟩,b5⟩;obtain ⟨A3,c3,E3,k3,F3,m3,SA3,sc3,B3,d3,rfl⟩:=hE;have CR:=FK ⟨2,A3,2,c3,K.dD,SA3,2,sc3,[K.iC E3 k3 5,K.iC F3 m3 2],B3,3,d3,[K.bQ 4,K.bQ 2,K.bQ 1]⟩ (some ⟨w5.heap.size,0,none⟩) 1 1 [0] (w5.alloc (.cells #[.int .i64 0] 3)) (hx3.below ((Below.refl _ _).alloc (zG _) _)) (zk w5 [0]) (by decide) (by decide:(2:Nat)<=1000000) Kz;change Calls Tryz.prog 45 _ (w5.alloc (.cells #[.int .i64 0] 3)) λe w'=>Dl (w5.alloc (.cells #[.int .i64 0] 3)) w' (K.jV 2 K.dD (K.d_ E3 k3 F3 m3) K.fG [0]) (K.dM 2 K.dD (K.d_ E3 k3 F3 m3) K.fG [0]) e at CR;rw [(K.Qq E3 k3 F3 m3).1,K.af9] at CR;have U5:Below w5.heap.size w5 (w5.alloc (.cells #[.int .i64 0] 3)):=(Below.refl _ _).alloc (zG _) _;go_wp2_with fail;refine CR.mono ?_;rintro e w6 ⟨⟨QA,qn,qc,QL,rfl,hQ,OC⟩,b6⟩;have UJ:=bel Ah (bel b5 (bel U5 b6));obtain rfl:qn=1:=by
  have h1:=hQ.1.1;have h2:=congrArg List.length OC;rw [List.length_map] at h2;exact h1.trans h2
 clear CR U5 b5 b6 Ah;have dR:=hT.below UJ;obtain ⟨ta,y0,hTA,hy0,-,-,-,-,t3⟩:=dR.at_ (k:=0) (by decide);obtain ⟨ta',y1,wR,hy1,-,-,-,-,u3⟩:=dR.at_ (k:=1) (by decide);obtain rfl:ta'=ta:=by rw [hTA] at wR;injection wR with h;exact h.symm
 have e30:y0.t.end_=30:=by
  have h:=congrArg (λl=>l[0]?) SN.out;rw [List.getElem?_map,hy0] at h;injection h
 have e25:y1.t.end_=25:=by
  have h:=congrArg (λl=>l[1]?) SN.out;rw [List.getElem?_map,hy1] at h;injection h
 rw [e30] at t3;rw [e25] at u3;obtain ⟨qa,s0,WV,hs0,hI,-,-,-,-,-,q5⟩:=hQ.at_ (k:=0) (by decide);have hsl:s0.l=[2]:=by
  have h:=congrArg (λl=>l[0]?) OC;rw [List.getElem?_map,hs0] at h;injection h with h;have h2:s0.bare.l=(K.iC F3 m3 2).bare.l:=by rw [h]
  exact h2
 have hsn:s0.n=1:=by rw [hI.1,hsl];rfl
 rw [hsl,hsn] at hI;rw [hsn] at q5;obtain ⟨ra,z0,oI,hz0,r0⟩:=hI.at_ (k:=0) (by decide);obtain rfl:z0=2:=by injection hz0 with h;exact h.symm
 rw [oI] at q5;have f0:w6.cell? ⟨ta'.block,ta'.off + 3,none⟩=some (.int .i64 30):=t3;have f1:w6.cell? ⟨ta'.block,ta'.off + 4 + 3,none⟩=some (.int .i64 25):=u3;have f2:w6.cell? ⟨ta'.block,ta'.off + 7,none⟩=some (.int .i64 25):=u3;have f3:w6.cell? ⟨qa.block,qa.off + 5,none⟩=some (.slice (some ra) 1 s0.c):=q5;have f4:w6.cell? ra=some (.int .i64 2):=r0;clear t3 u3 q5 r0 hI hz0 hsl hsn hs0 e30 e25 hy0 hy1 hQ OC oI dR;rw [hTA,WV];have TT:=zC hTA;clear hTA wR WV;go_wp2_with fail;clear f0 f1 f2 f3 f4;have i1:Ints (w6.alloc (.cells #[.int .i64 1] 3)) (some ⟨w6.heap.size,0,none⟩) 1 [1]:=zk w6 [1];have bx:Below (w6.alloc (.cells #[.int .i64 1] 3)).heap.size (w6.alloc (.cells #[.int .i64 1] 3)) ((w6.alloc (.cells #[.int .i64 1] 3)).alloc (.cells #[.int .i64 0,.int .i64 2] 3)):=(Below.refl _ _).alloc (zG _) _;have i2:Ints ((w6.alloc (.cells #[.int .i64 1] 3)).alloc (.cells #[.int .i64 0,.int .i64 2] 3)) (some ⟨w6.heap.size + 1,0,none⟩) 2 [0,2]:=by
  have h:=zk (w6.alloc (.cells #[.int .i64 1] 3)) [0,2];rw [World.size_alloc] at h;exact h
 have bl:Below w6.heap.size w6 ((w6.alloc (.cells #[.int .i64 1] 3)).alloc (.cells #[.int .i64 0,.int .i64 2] 3)):=bel ((Below.refl _ _).alloc (zG _) _) bx;have CK:=Qu (some ⟨w6.heap.size,0,none⟩) 1 1 [1] (some ⟨w6.heap.size + 1,0,none⟩) 2 2 [0,2] ((w6.alloc (.cells #[.int .i64 1] 3)).alloc (.cells #[.int .i64 0,.int .i64 2] 3)) (i1.below bx) i2 (by decide) (by decide) K.af6;go_wp2_with fail;refine CK.mono ?_;rintro e v1 ⟨rfl,b1⟩;have b1:=bel bl b1;clear i1 bx i2 bl CK;go_wp2_with fail;have i1:Ints (v1.alloc (.cells #[.int .i64 0] 3)) (some ⟨v1.heap.size,0,none⟩) 1 [0]:=zk v1 [0];have bx:Below (v1.alloc (.cells #[.int .i64 0] 3)).heap.size (v1.alloc (.cells #[.int .i64 0] 3)) ((v1.alloc (.cells #[.int .i64 0] 3)).alloc (.cells #[.int .i64 1] 3)):=(Below.refl _ _).alloc (zG _) _;have i2:Ints ((v1.alloc (.cells #[.int .i64 0] 3)).alloc (.cells #[.int .i64 1] 3)) (some ⟨v1.heap.size + 1,0,none⟩) 1 [1]:=by
  have h:=zk (v1.alloc (.cells #[.int .i64 0] 3)) [1];rw [World.size_alloc] at h;exact h
 have bl:Below v1.heap.size v1 ((v1.alloc (.cells #[.int .i64 0] 3)).alloc (.cells #[.int .i64 1] 3)):=bel ((Below.refl _ _).alloc (zG _) _) bx;have CK:=Qu (some ⟨v1.heap.size,0,none⟩) 1 1 [0] (some ⟨v1.heap.size + 1,0,none⟩) 1 1 [1] ((v1.alloc (.cells #[.int .i64 0] 3)).alloc (.cells #[.int .i64 1] 3)) (i1.below bx) i2 (by decide) (by decide) K.Qq;go_wp2_with fail;refine CK.mono ?_;rintro e v2 ⟨rfl,b2⟩;have b2:=bel bl b2;clear i1 bx i2 bl CK;go_wp2_with fail;have i1:Ints (v2.alloc (.cells #[.int .i64 0,.int .i64 1] 3)) (some ⟨v2.heap.size,0,none⟩) 2 [0,1]:=zk v2 [0,1];have bl:Below v2.heap.size v2 (v2.alloc (.cells #[.int .i64 0,.int .i64 1] 3)):=(Below.refl _ _).alloc (zG _) _;have CK:=Qu (some ⟨v2.heap.size,0,none⟩) 2 2 [0,1] none 0 0 [] (v2.alloc (.cells #[.int .i64 0,.int .i64 1] 3)) i1 (gK _) (by decide) (by decide) K.af7;go_wp2_with fail;refine CK.mono ?_;rintro e v3 ⟨rfl,b3⟩;have b3:=bel bl b3;clear i1 bl CK;go_wp2_with fail;refine (Ar v3).mono ?_;rintro e v4 ⟨⟨x,hE,hx4,rfl⟩,b7⟩;obtain ⟨A4,c4,E4,k4,F4,m4,SA4,sc4,B4,d4,rfl⟩:=hE;have ru:=bel UJ (bel b1 (bel b2 (bel b3 b7)));have CC:=Vg ⟨2,A4,2,c4,K.dD,SA4,2,sc4,[K.iC E4 k4 5,K.iC F4 m4 2],B4,3,d4,[K.bQ 4,K.bQ 2,K.bQ 1]⟩ none 0 0 [] KA 3 kc kk.1.kept TA 2 tc ts RA 0 rc L v4 hx4 (gK _) (hK.below ru) (hT.below ru) (hR.below ru) (by decide) (by decide) lN ny (by decide:(2:Nat)<=1000000) Kz;have hck:K.lU 2 K.dD (K.d_ E4 k4 F4 m4) K.fG [] kk.1.kept (ts.map TV.pr) (L.map RV.pr)=true:=by
  rw [iT.out,Mc.out,HKK.out,K.YX (ss':=(K.d_ E1 k1 F1 m1)) (ss:=(K.d_ E4 k4 F4 m4)) rfl];exact K.Y0 (by decide:(2:Nat)<=4) (by decide:(3:Nat)<=4) (K.YV E4 k4 F4 m4).1
 change Calls Tryz.prog 52 _ v4 λe w'=>e=.returned (.bool (K.lU 2 K.dD (K.d_ E4 k4 F4 m4) K.fG [] kk.1.kept (ts.map TV.pr) (L.map RV.pr)))/\Below v4.heap.size v4 w' at CC;rw [hck,TT.out] at CC;go_wp2_with fail;refine CC.mono ?_;rintro e v5 ⟨rfl,b8⟩;go_wp2_with fail;go_ret;exact ⟨rfl,bel hb2 (bel ru b8)⟩
theorem K.aga {nd:Int} {l:List Ro} {ss:List S} {r:List Q} {lost:List Int} (h:(K.cZ nd l ss r lost).2=0):(K.cZ nd l ss r lost).1.kept.length<=r.length:=by
 have h0:K.dM nd l ss r lost=0:=by
  unfold K.cZ at h;split at h
  ·assumption
  ·exact h
 obtain ⟨h1,h2⟩:=K.BQ h0;have hp:=K.JW h2 (K.uS (lost:=lost) ss 0) (List.nil_sublist r);have hk:=K.BK (nd:=nd) (l:=l) (rest:=K.dN lost 0 ss) (r:=r) hp (zG _);rw [K.BJ] at hk;have:=hk.len;unfold K.cZ;rw [if_pos h0];dsimp only;omega
theorem ait (x:Cs) (LA:Option Addr) (ln lc:Nat) (w:World) (hS:Shifts w x.SA x.sn x.ss) (hQ:bW w x.B x.m x.r) :
  Calls Tryz.prog 43 #[.agg #[.int .i64 x.nd,.slice x.A x.n x.c,.slice x.SA x.sn x.sc,.slice x.B x.m x.d],.slice LA ln lc] w λe w'=>(∃ z,e=.returned (.bool z)/\(z=true->K.dK x=true/\ln<=10))/\Below w.heap.size w w':=by
 obtain ⟨w1,hw1⟩:=zB (w.alloc (.cells #[.int .i64 x.nd,.slice x.A x.n x.c,.slice x.SA x.sn x.sc,.slice x.B x.m x.d] 44));obtain ⟨g,hg⟩:=zB w.heap.size;have b1:=zA hw1;have hN1:ja w1 g x:=by rw [hw1,hg];exact ja.new _ _
 have p0:=af hN1 0 _ rfl;have p1:=af hN1 1 _ rfl;have p2:=af hN1 2 _ rfl;have p3:=af hN1 3 _ rfl;have CF:=aef x w1 (hS.below b1) (hQ.below b1);obtain ⟨z,hz⟩:=zB (K.dK x);rw [<-hz] at CF;have HZ:=zC hz;clear hz;go_enter Tryz.func43,Tryz.ntmps43;go_upto_region 1 with fail;rw [<-hw1,<-hg];clear hw1 hg;go_wp2_with fail;refine CF.mono ?_;rintro e w2 ⟨rfl,b2⟩;cases z
 ·go_wp2_with fail;go_ret;exact ⟨⟨false,rfl,λh=>(by cases h)⟩,bel b1 b2⟩
 ·by_cases h10:ln<=10
  ·have d1:decide ((ln:Int)<=10)=true:=by simp;omega
   have d2:decide (ln<=10)=true:=by simp;omega
   have H10:=zC h10;clear h10;go_wp2_with fail;go_ret;exact ⟨⟨true,rfl,λ_=>⟨HZ.out.symm,H10.out⟩⟩,bel b1 b2⟩
  ·have d1:decide ((ln:Int)<=10)=false:=by simp;omega
   have d2:decide (ln<=10)=false:=by simp;omega
   clear h10;go_wp2_with fail;go_ret;exact ⟨⟨false,rfl,λh=>(by cases h)⟩,bel b1 b2⟩
def He (y:RV):Prop:=y.n<=202/\∀ b ∈ y.bl,b.vn<=6/\b.ln<=60
theorem aiu (TA:Option Addr) (tn tc:Nat) (ts:List TV) (RA:Option Addr) (rn rc:Nat) (rl:List RV) (w:World) (hT:dY w TA tn ts) (hR:lD w RA rn rl) :
  Calls Tryz.prog 44 #[.slice TA tn tc,.slice RA rn rc] w λe w'=>(∃ z,e=.returned (.bool z)/\(z=true->rn<=6/\(tn<=6/\∀ y ∈ ts,y.n<=10/\y.n'<=10)/\∀ y ∈ rl,He y))/\Below w.heap.size w w':=by
 go_enter Tryz.func44,Tryz.ntmps44;go_wp2_with fail;go_loopw [5] (λv5 wr=>∃ i:Nat,v5=.int .i64 i/\i<=rn/\i<=6/\Hid (∀ (s:Nat) (y:RV),s < i->rl[s]? = some y->He y)/\Below w.heap.size w wr) (λv5 _=>rn - (intOf v5).toNat)
 case atStart=>exact ⟨0,rfl,Nat.zero_le _,Nat.zero_le _,λs y h=>absurd h (Nat.not_lt_zero _),Below.refl _ _⟩
 case round =>
  obtain ⟨i,rfl,hi,hi6,hS,hbr⟩:=hrel;by_cases hlt:i < rn
  ·have i0:(0:Int)<=(i:Int):=by omega
   have i1:(i:Int) < (rn:Int):=by omega
   have d1:decide ((i:Int) < (rn:Int))=true:=zH i1;have d2:decide (i < rn)=true:=zH hlt;by_cases h6:i < 6
   ·have d3:decide ((i:Int) < 6)=true:=zH (by omega);have d4:decide (i < 6)=true:=zH h6;obtain ⟨ad,y,hA,hy,hyB,cy⟩:=(hR.below hbr).at_ hlt;have HY:=zC hy;have CF:=aeg y.A y.n y.c y.bl wr hyB;rw [hA];have HA:=zC hA;clear hA hy;go_wp2_with fail;refine CF.mono ?_;rintro e w5 ⟨⟨z,rfl,hz⟩,b5⟩;have HZ:=zC hz;have hb5:=bel hbr b5;clear CF cy hyB hz;cases z
    ·go_wp2_with fail;go_ret;exact ⟨⟨false,rfl,λh=>(by cases h)⟩,hb5⟩
    ·have HS2:=zC (show ∀ (s:Nat) (y:RV),s < i + 1->rl[s]? = some y->He y from λs y' hs hy'=>by
      by_cases e:s < i
      ·exact hS.out s y' e hy'
      ·obtain rfl:s=i:=by omega
       have h9:=HY.out;rw [hy'] at h9;injection h9 with h9;rw [h9];exact HZ.out rfl)
     have h6b:i + 1<=6:=h6;go_wp2_with fail;exact ⟨⟨i + 1,by push_cast;rfl,hlt,h6b,HS2.out,hb5⟩,by simp [intOf];omega⟩
   ·have d3:decide ((i:Int) < 6)=false:=zI (by omega);have d4:decide (i < 6)=false:=zI h6;have d5:decide ((rn:Int)<=6)=false:=zI (by omega);have d6:decide (rn<=6)=false:=zI (by omega);go_wp2_with fail;go_ret;exact ⟨⟨false,rfl,λh=>(by cases h)⟩,hbr⟩
  ·have d1:decide ((i:Int) < (rn:Int))=false:=zI (by omega);have d2:decide (i < rn)=false:=zI hlt;have d5:decide ((rn:Int)<=6)=true:=zH (by omega);have d6:decide (rn<=6)=true:=zH (by omega);have HB:=zC (show rn<=6 by omega);have ab_:=zC (show ∀ y ∈ rl,He y from λy hy=>by
    obtain ⟨s,hs,e⟩:=List.getElem_of_mem hy;have h1:=hR.1.1;exact hS.out s y (by omega) (by rw [zF hs,e]))
   have CT:=aej TA tn tc ts wr (hT.below hbr);go_wp2_with fail;refine CT.mono ?_;rintro e w5 ⟨⟨z,rfl,hz⟩,b5⟩;have HZ:=zC hz;have hb5:=bel hbr b5;clear CT hz;cases z
   ·go_wp2_with fail;go_ret;exact ⟨⟨false,rfl,λh=>(by cases h)⟩,hb5⟩
   ·go_wp2_with fail;go_ret;exact ⟨⟨true,rfl,λ_=>⟨HB.out,HZ.out (by trivial),ab_.out⟩⟩,hb5⟩
theorem aeh {w w':World} {A A':Option Addr} {n n':Nat} {ts ts':List TV} (h:dY w A n ts) (hf:sQ n ts) (h':dY w' A' n' ts') (e:ts.map TV.pr=ts'.map TV.pr):sQ n' ts':=by
 refine ⟨?_,λy hy=>?_⟩
 ·have h1:=h.1.1;have h2:=h'.1.1;have h3:=congrArg List.length e;rw [List.length_map,List.length_map] at h3;have:=hf.1;omega
 ·have hm:y.pr ∈ ts.map TV.pr:=by rw [e];exact List.mem_map_of_mem hy
  obtain ⟨z,hz,ez⟩:=List.mem_map.1 hm;have h1:=(h'.2 y hy).1.1;have h2:=(h'.2 y hy).2.1;have h3:=(h.2 z hz).1.1;have h4:=(h.2 z hz).2.1;have e1:z.t.stops=y.t.stops:=congrArg (λp=>p.2.stops) ez;have e2:z.t.times=y.t.times:=congrArg (λp=>p.2.times) ez;rw [e1] at h3;rw [e2] at h4;have:=hf.2 z hz;omega
theorem K.kept_len {nd:Int} {l:List Ro} {ss:List S} {r:List Q} {lost:List Int}:(K.cZ nd l ss r lost).1.kept.length<=r.length:=by
 by_cases h0:K.dM nd l ss r lost=0
 ·exact K.aga (by unfold K.cZ;rw [if_pos h0])
 ·unfold K.cZ;rw [if_neg h0];exact Nat.zero_le _
theorem ak0 (x:Cs) (LA:Option Addr) (ln lc:Nat) (lost:List Int) (KA:Option Addr) (kn kc:Nat) (kept:List Int) (TA:Option Addr) (tn tc:Nat) (ts:List TV) (RA:Option Addr) (rn rc:Nat) (rl:List RV) (w:World) (hN:jf w x.A x.n x.l) (hS:Shifts w x.SA x.sn x.ss) (hQ:bW w x.B x.m x.r) (hL:Ints w LA ln lost) (hK:Ints w KA kn kept) (hT:dY w TA tn ts) (htc:∀ y ∈ ts,y.n<=y.c) (hR:lD w RA rn rl) (hcp:∀ y ∈ rl,y.n<=y.c/\∀ b ∈ y.bl,b.vn<=b.vc) :
  Calls Tryz.prog 9 #[.agg #[.int .i64 x.nd,.slice x.A x.n x.c,.slice x.SA x.sn x.sc,.slice x.B x.m x.d],.slice LA ln lc,.slice KA kn kc,.slice TA tn tc,.slice RA rn rc] w λe w'=>e=.returned (.bool true)/\Below w.heap.size w w':=by
 obtain ⟨w1,hw1⟩:=zB (w.alloc (.cells #[.int .i64 x.nd,.slice x.A x.n x.c,.slice x.SA x.sn x.sc,.slice x.B x.m x.d] 44));obtain ⟨g,hg⟩:=zB w.heap.size;have b1:=zA hw1;have hN1:ja w1 g x:=by rw [hw1,hg];exact ja.new _ _
 go_enter Tryz.func9,Tryz.ntmps9;go_upto_region 1 with fail;rw [<-hw1,<-hg];clear hw1 hg;go_wp2_with fail;refine (ai8 w1).mono ?_;rintro e w2 ⟨rfl,b2⟩;have aY:=hN1.below b2;have hb2:=bel b1 b2;clear hN1 b1 b2;have p0:=af aY 0 _ rfl;have p1:=af aY 1 _ rfl;have p2:=af aY 2 _ rfl;have p3:=af aY 3 _ rfl;go_wp2_with fail;refine (ait x LA ln lc w2 (hS.below hb2) (hQ.below hb2)).mono ?_;rintro e w3 ⟨⟨z,rfl,hz⟩,b3⟩;have HZ:=zC hz;have hN3:=aY.below b3;have hb3:=bel hb2 b3;clear hz aY hb2 b3 p0 p1 p2 p3;cases z
 ·go_wp2_with fail;go_ret;exact ⟨rfl,hb3⟩
 obtain ⟨hF,akB⟩:=HZ.out rfl;obtain ⟨akH,hs6,hm8,kK,-,-,Ep⟩:=K.VL hF hQ.1;have hx3:bF w3 x:=K.aee hF (aQ.below hN hb3) (hS.below hb3) (hQ.below hb3);have vN:=zC (show ∀ s ∈ x.ss,s.n<=1000000 from λs hs=>by have:=kK s hs;omega);have aci:=zC Ep;clear HZ kK hF Ep;by_cases hk10:10 < kn
 ·have d1:decide ((10:Int) < (kn:Int))=true:=zH (by omega);have d2:decide (10 < kn)=true:=zH hk10;clear hk10;go_wp2_with fail;go_ret;exact ⟨rfl,hb3⟩
 have d1:decide ((10:Int) < (kn:Int))=false:=zI (by omega);have d2:decide (10 < kn)=false:=zI hk10;have hkn:kn<=1000000000:=by omega
 have CR:=aiu TA tn tc ts RA rn rc rl w3 (hT.below hb3) (hR.below hb3);go_wp2_with fail;refine CR.mono ?_;rintro e w4 ⟨⟨z,rfl,hz⟩,b4⟩;have HZ:=zC hz;have rH:=hN3.below b4;have hb4:=bel hb3 b4;have hx4:=hx3.below b4;clear hz CR hN3 b4 hx3 d1 d2 hk10;cases z
 ·go_wp2_with fail;go_ret;exact ⟨rfl,hb4⟩
 obtain ⟨Yt,⟨ht6,hty⟩,Jq⟩:=HZ.out rfl;have lN:sQ tn ts:=⟨by omega,λy hy=>by have:=hty y hy;omega⟩;have ny:Gi rn rl:=⟨by omega,λy hy=>⟨⟨by have:=(Jq y hy).1;omega,λb hb=>⟨(hcp y hy).2 b hb,by have:=((Jq y hy).2 b hb).1;omega,by have:=((Jq y hy).2 b hb).2;omega⟩⟩,(hcp y hy).1⟩⟩;have vJ:=zC lN;have SX:=zC ny;clear HZ hty Jq lN ny hcp;have hln:ln<=1000000000:=by omega
 have hsn:x.sn<=1000000:=by omega
 obtain ⟨RS,hRS⟩:=zB (K.jV x.nd x.l x.ss x.r lost);obtain ⟨er,her⟩:=zB (K.dM x.nd x.l x.ss x.r lost);obtain ⟨KK,oH⟩:=zB ((K.cZ x.nd x.l x.ss x.r lost).1);obtain ⟨ke,hke⟩:=zB ((K.cZ x.nd x.l x.ss x.r lost).2);obtain ⟨ck,hck⟩:=zB (K.lU x.nd x.l x.ss x.r lost kept (ts.map TV.pr) (rl.map RV.pr));have Tq:=zC (show KK.kept.length<=1000000000 by
  have h1:=K.kept_len (nd:=x.nd) (l:=x.l) (ss:=x.ss) (r:=x.r) (lost:=lost);rw [<-oH] at h1;have h2:=hQ.1;omega)
 have acs:=zC (show RS.Sublist x.ss by rw [hRS];exact FI);have CR:=FK x LA ln lc lost w4 hx4 (hL.below hb4) hln hsn vN.out;rw [<-hRS,<-her] at CR;have p0:=af rH 0 _ rfl;have p1:=af rH 1 _ rfl;have p2:=af rH 2 _ rfl;have p3:=af rH 3 _ rfl;go_wp2_with fail;refine CR.mono ?_;rintro e w5 ⟨⟨A5,n5,c5,L5,rfl,hS5,dF⟩,b5⟩;have iQ:=rH.below b5;have hb5:=bel hb4 b5;have hx5:=hx4.below b5;obtain ⟨hn5,hs5⟩:=FM hx5 hsn vN.out acs.out hS5 dF;have HS5:=zC hs5;have SH:=zC dF;clear CR p0 p1 p2 p3 rH hx4 hs5 dF b5 hb4;have CR:=Rt x LA ln lc lost w5 hx5 (hL.below hb5) hln hsn;rw [<-hRS,<-her] at CR;clear hRS her;have p0:=af iQ 0 _ rfl;have p1:=af iQ 1 _ rfl;have p2:=af iQ 2 _ rfl;have p3:=af iQ 3 _ rfl;go_wp2_with fail;refine CR.mono ?_;rintro e w6 ⟨⟨A6,n6,c6,L6,rfl,hS6,fP⟩,b6⟩;have kY:=iQ.below b6;have hb6:=bel hb5 b6;have hx6:=hx5.below b6;have Xe:=hS5.below b6;have HB6:=zC (show L5.map S.bare=L6.map S.bare by rw [SH.out,fP]);clear CR p0 p1 p2 p3 iQ hx5 fP b6 hb5 hS5 SH;have CK:=Qr x LA ln lc lost w6 hx6 (hL.below hb6) hln hsn vN.out;rw [<-oH,<-hke] at CK;have p0:=af kY 0 _ rfl;have p1:=af kY 1 _ rfl;have p2:=af kY 2 _ rfl;have p3:=af kY 3 _ rfl;go_wp2_with fail;refine CK.mono ?_;rintro e w7 ⟨⟨KA7,Y7,kc7,RA7,rn7,rc7,d7,rfl,hK7,uy,-,rF,Qd,rM,nC,P7⟩,b7⟩;have AP:=kY.below b7;have hb7:=bel hb6 b7;have hx7:=hx6.below b7;have Xf:=Xe.below b7;have Xg:=hS6.below b7;obtain ⟨Hf,KO,KI,KQ,L7,e1,e2,e3,e4,e5⟩:∃ Hf KO KI KQ L7,Hf=d7.TA/\KO=d7.tn/\KI=d7.tc/\KQ=d7.ts/\L7=d7.L:=⟨_,_,_,_,_,rfl,rfl,rfl,rfl,rfl⟩;rw [<-e1,<-e2,<-e4] at uy;rw [<-e2,<-e4] at rF;rw [<-e4] at Qd;rw [<-e5] at rM nC P7;rw [<-e1,<-e2,<-e3];have Ld:=zC rF;have Tc:=zC nC;have TS:=zC Qd;have TL:=zC P7;clear CK p0 p1 p2 p3 kY hx6 b7 hb6 Xe hS6 e1 e2 e3 e4 e5 d7 rF nC Qd P7;have CK:=aiB x LA ln lc lost w7 hx7 (hL.below hb7) hln hsn vN.out aci.out;rw [<-oH,<-hke] at CK;clear oH hke;have p0:=af AP 0 _ rfl;have p1:=af AP 1 _ rfl;have p2:=af AP 2 _ rfl;have p3:=af AP 3 _ rfl;go_wp2_with fail;refine CK.mono ?_;rintro e w8 ⟨⟨KA8,kn8,kc8,Ut,tn8,tc8,ts8,RA8,rn8,rc8,L8,rfl,hK8,yM,YF,IJ,Yv⟩,b8⟩;have WM:=AP.below b8;have hb8:=bel hb7 b8;have YN:=hx7.below b8;have TY:=zC (show KQ.map TV.pr=ts8.map TV.pr by rw [TS.out,YF]);have HRR:=zC (show L7.map RV.pr=L8.map RV.pr by rw [TL.out,Yv]);have SQ:=zC (aeh uy Ld.out yM TY.out);have XW:Y7<=1000000000:=by have h1:=hK7.1;have h2:=Tq.out;omega
 have XX:kn8<=1000000000:=by have h1:=hK8.1;have h2:=Tq.out;omega
 have CS:=ai4 A5 A6 n5 n6 c5 c6 L5 L6 w8 (Xf.below b8) (Xg.below b8) HB6.out (by omega) (λy hy=>by have:=HS5.out y hy;omega);have Wy:=hK7.below b8;have Xi:=uy.below b8;have WX:=rM.below b8;have q1:(er != er)=false:=by simp
 have q2:(ke != ke)=false:=by simp
 clear CK p0 p1 p2 p3 AP hx7 b8 hb7 Xf Xg YF Yv hK7 uy rM TS TL;go_wp2_with fail;refine CS.mono ?_;rintro e w9 ⟨rfl,b9⟩;have bU:=bel hb8 b9;have WN:=WM.below b9;have YO:=YN.below b9;have WB:=Wy.below b9;have Xj:=Xi.below b9;have WY:=WX.below b9;have WC:=hK8.below b9;have Xk:=yM.below b9;have W9:=IJ.below b9;have CI:=BZ KA7 KA8 Y7 kn8 kc7 kc8 KK.kept KK.kept w9 WB WC XW XX;rw [zH rfl] at CI;clear CS b9 hb8 WM YN Wy Xi WX hK8 yM IJ;go_wp2_with fail;refine CI.mono ?_;rintro e w10 ⟨rfl,b10⟩;have Xx:=bel bU b10;have WJ:=WN.below b10;have YJ:=YO.below b10;have WW:=WY.below b10;have WZ:=W9.below b10;have CT:Calls Tryz.prog 24 #[.slice Hf KO KI,.slice Ut tn8 tc8] w10 λe w'=>e=.returned (.bool true)/\Below w10.heap.size w10 w':=by
  refine (ai6 Hf Ut KO tn8 KI tc8 KQ ts8 w10 (Xj.below b10) (Xk.below b10) Ld.out.1 SQ.out.1 (λy hy=>by have:=Ld.out.2 y hy;omega) (λy hy=>by have:=SQ.out.2 y hy;omega)).mono ?_;rintro e w' ⟨⟨z,rfl,hz⟩,hb'⟩;exact ⟨by rw [hz.2 TY.out],hb'⟩
 clear CI b10 bU WN YO WB Xj WY WC Xk W9;go_wp2_with fail;refine CT.mono ?_;rintro e F6 ⟨rfl,b11⟩;have Xy:=bel Xx b11;have WL:=WJ.below b11;have YK:=YJ.below b11;have CB:=ai3 RA7 RA8 rn7 rn8 rc7 rc8 L7 L8 F6 (WW.below b11) (WZ.below b11) HRR.out (by have:=Tc.out.1;omega) (λy hy=>(Tc.out.2 y hy).1);clear CT b11 Xx WJ YJ WW WZ;go_wp2_with fail;refine CB.mono ?_;rintro e w12 ⟨rfl,b12⟩;have hb:=bel Xy b12;have II:=WL.below b12;have Qk:=YK.below b12;clear CB b12 Xy WL YK;have C52:∀ i:ah w12,Calls Tryz.prog 52 #[.agg #[.int .i64 x.nd,.slice x.A x.n x.c,.slice x.SA x.sn x.sc,.slice x.B x.m x.d],.slice LA ln lc,.slice KA kn kc,.slice TA tn tc,.slice RA rn rc] i.val λe w'=>e=.returned (.bool ck)/\Below i.val.heap.size i.val w':=λi=>by
  rw [hck];exact Vg x LA ln lc lost KA kn kc kept TA tn tc ts RA rn rc rl i.val (Qk.below i.property) ((hL.below hb).below i.property) ((hK.below hb).below i.property) ((hT.below hb).below i.property) ((hR.below hb).below i.property) hln hkn vJ.out SX.out hsn vN.out
 have C53:∀ i:ah w12,Calls Tryz.prog 53 #[.agg #[.int .i64 x.nd,.slice x.A x.n x.c,.slice x.SA x.sn x.sc,.slice x.B x.m x.d],.slice LA ln lc,.slice KA kn kc,.slice TA tn tc,.slice RA rn rc] i.val λe w'=>e=.returned (.bool ck)/\Below i.val.heap.size i.val w':=λi=>by
  rw [hck];exact aaB x LA ln lc lost KA kn kc kept TA tn tc ts RA rn rc rl i.val (Qk.below i.property) ((hL.below hb).below i.property) ((hK.below hb).below i.property) ((hT.below hb).below i.property) ((hR.below hb).below i.property) hln hkn vJ.out htc SX.out hsn vN.out
 have q0:=ah.cell (af II 0 _ rfl);have q1:=ah.cell (af II 1 _ rfl);have q2:=ah.cell (af II 2 _ rfl);have q3:=ah.cell (af II 3 _ rfl);have q4:(ck == ck)=true:=by cases ck <;> rfl
 clear hck Qk XW XX hn5;go_upto_region 10 with fail;refine dU (by kernel_rfl) (by kernel_rfl) ?_;repeat (go_big_quiet_step ((first | (go_at_call 52;exact ah.calls (C52 _)) | (go_at_call 53;exact ah.calls (C53 _)))))
 refine wpQuiet_nil ?_;rintro w13 ⟨⟨w13,b13⟩,rfl⟩;go_wp2_with fail;go_ret;exact ⟨by simp,bel hb b13⟩
end Go.Proofs.YtippdjmpkafifaaGreat
namespace Go.Proofs.YtippdjmpkafifaaGreat
open Go.ChangeShapes Go.WideShapes Go.Deep Go.RowKit
section
variable {H : Type} {enc : TypeId × Value -> H} {P : Program} {w : World} {base : Nat} {spare : Nat -> Bool} {held : Bool}
theorem xq {t e:TypeId} {fs:Array Field} {fuel:Nat} {cs:List Value} {x:DataW H × List MemPlace} (ht:P.underlying t=some (.slice e)) (he:P.underlying e=some (.struct fs))
  (hone:oneCellFields P fs=true) (hC:P.cellsOf e=fs.size) (h:DataW.trod enc P w base spare held fuel t cs=some x) :
  (cs=[.slice none 0 0]/\x=(.nil,[])) \/
  ∃ (a:Addr) (len cap m:Nat) (D:Nat->DataW H) (Pl:Nat->List MemPlace),cs=[.slice (some a) len cap]/\base<=a.block/\len<=cap/\cap<=maxLen/\m=(if spare a.block then cap else len) /\
   x=(.slice ((List.range len).map D) ((List.range (m - len)).map λj=>D (len + j)),MemPlace.row a (m * fs.size) ++ (List.range m).flatMap Pl) /\
   ∀ i,i < m->∃ (ys:List (DataW H × List MemPlace)) (n:Nat),D i=.agg (ys.map (·.1))/\Pl i=ys.flatMap (·.2)/\ys.length=fs.size /\
    ∀ (j:Nat) (f:Field),fs[j]? = some f->∃ (v:Value) (y:DataW H × List MemPlace),w.cell? (a.add (i * fs.size + j))=some v/\ys[j]? = some y/\DataW.trod enc P w base spare held n f.type [v] = some y:=by
 rcases open_slice ht h with h0 | ⟨a,len,cap,m,n,D,Pl,hcs,hb,hl,hm,hmm,hx,hi⟩
 ·exact .inl h0
 ·refine .inr ⟨a,len,cap,m,D,Pl,hcs,hb,hl,hm,hmm,by rw [hC] at hx;exact hx,λi him=>?_⟩;obtain ⟨cs',hc,ht'⟩:=hi i him;rw [hC] at hc;obtain ⟨ys,n',hn',hy,hlen,hyl,hf⟩:=DataW.trod_struct he ht';obtain ⟨_,hcl,hat⟩:=World.cells?_some hc;simp only [Prod.mk.injEq] at hy;refine ⟨ys,n',hy.1,hy.2,hyl,λj f hj=>?_⟩;obtain ⟨ho,hk⟩:=hone_of hone j f hj;have hjl:j < fs.size:=(Array.getElem?_eq_some_iff.1 hj).1;have hcell:=hat j hjl;have hv:cs'[j]? = some (cs'[j]'(by omega)):=zF (by omega);have h1:=hf j f hj;rw [ho,hk] at h1;have hone':(cs'.drop j).take 1=[cs'[j]'(by omega)]:=by
   rw [List.drop_eq_getElem_cons (by omega)];rfl
  rw [hone'] at h1;have hys:ys[j]? = some (ys[j]'(by omega)):=zF (by omega);refine ⟨_,_,?_,hys,h1.trans hys⟩;rw [<-Go.Deep.add_add,hcell,hv]
end
section
variable {H : Type} {enc : TypeId × Value -> H} {P : Program}
theorem ah4 {f:Func} {s:ChangeSpec} {apart fresh handsOn again:Bool} {W W':World} {args:Array Value} {v:Value} {ds gs:List (DataW H)} {before pa pv:List MemPlace}
  (hW:DataW.Whole enc P f.params.toList s.vars apart W args.toList ds gs before)
  (hres:∀ (b:Nat) (sp:Nat->Bool) (hd:Bool),DataW.TrodAll enc P W' b sp hd f.resultTypes.toList (v.resultList f.resultTypes.size) (s.fn H (ds ++ gs)).results [])
  (hargs:∀ sp:Nat->Bool,(∀ p ∈ before,sp p.block=true)->DataW.TrodAll enc P W' 0 sp true f.params.toList args.toList (s.fn H (ds ++ gs)).args pa)
  (hvars:∀ sp:Nat->Bool,(∀ p ∈ before,sp p.block=true)->DataW.TrodVars enc P W' sp s.vars (s.fn H (ds ++ gs)).vars pv)
  (hps:before=pa ++ pv) (hb:Below W.heap.size W W')
  (hok:∀ (j:Nat) (t:TypeId) (r:Value),f.resultTypes[j]? = some t->(v.resultList f.resultTypes.size)[j]? = some r->Value.okWide P W' .any 0 t r) :
  s.post enc P f apart fresh handsOn again W args v W':=by
 have hlt:∀ p ∈ before,p.block < W.heap.size:=λp hp=>hW.lt p hp;have hold:∀ p ∈ before,(λb=>decide (b < W.heap.size)) p.block=true:=λp hp=>by simpa using hlt p hp
 refine ⟨ds,gs,before,[],pa,pv,hW,hres _ _ _,hargs _ hold,hvars _ hold,World.keptBut_mono (λp hp=>⟨hp,?_⟩) (hb.frame (· ∈ before)),λ_=>?_⟩
 ·rw [hps,List.mem_append] at hp;exact Or.inr hp
 ·obtain ⟨_,_,_,_,_,hz,hn⟩:=hW;refine ⟨hok,_,_,([] ++ pa) ++ pv,⟨[] ++ pa,pv,trodAll_append (hargs _ (λ_ _=>rfl)) (hres _ _ _),hvars _ (λ_ _=>rfl),rfl,?_,?_⟩,?_⟩
  ·intro b off hp;have hin:MemPlace.cell b off ∈ before:=by rw [hps];simpa using hp
   rw [hb.frozen (hlt _ hin)];exact hz b off hin
  ·intro ha;have:=hn ha;rw [hps] at this;simpa using this
  ·intro p hp _;rw [hps];simpa using hp
end
theorem sF {α:Type} {n:Nat} {Q:Nat->α->Prop} (h:∀ i,i < n->∃ x,Q i x):∃ l:List α,l.length=n/\∀ i x,l[i]? = some x->Q i x:=by
 induction n with
 | zero=>exact ⟨[],rfl,λi x hx=>by simp at hx⟩
 | succ n ih =>
  obtain ⟨l,hl,hq⟩:=ih (λi hi=>h i (by omega));obtain ⟨x,hx⟩:=h n (by omega);refine ⟨l ++ [x],by simp [hl],λi y hy=>?_⟩;rw [List.getElem?_append] at hy;split at hy
  ·exact hq i y hy
  ·rename_i hlt
   have e:i=n:=by
    by_cases e:i - l.length=0
    ·omega
    ·rw [List.getElem?_eq_none (by simp;omega)] at hy;cases hy
   subst e;rw [<-hl,Nat.sub_self] at hy;simp at hy;subst hy;exact hx
theorem akb {w:World} {ad:Addr} {l:List (Int × Int)} (h:∀ i p,l[i]? = some p->w.cell? (ad.add (i * 2))=some (.int .i64 p.1)/\w.cell? (ad.add (i * 2 + 1))=some (.int .i64 p.2)) :
  ∀ j u,(sK l)[j]? = some u->w.cell? (ad.add j)=some u:=by
 intro j u hu;have hj:j < (sK l).length:=(zE.1 hu).1;rw [ab8] at hj;have hp:l[j / 2]? = some (l[j / 2]'(by omega)):=zF (by omega);obtain ⟨g1,g2⟩:=ab7 l _ _ hp;obtain ⟨k1,k2⟩:=h _ _ hp;by_cases e:j % 2=0
 ·have:j=j / 2 * 2:=by omega
  rw [this] at hu ⊢;rw [g1] at hu;injection hu with hu;rw [<-hu];exact k1
 ·have:j=j / 2 * 2 + 1:=by omega
  rw [this] at hu ⊢;rw [g2] at hu;injection hu with hu;rw [<-hu];exact k2
section
variable {H : Type} {enc : TypeId × Value -> H} {P : Program}
theorem ajS (hl:laidOutB P=true) {W W':World} {sp:Nat->Bool} (hb:Below W.heap.size W W') :
  ∀ (ts:List TypeId) (vs:List Value) (ds:List (DataW H)) (ps:List MemPlace),(∀ t ∈ ts,P.readableRec t=true/\t < P.types.size)->DataW.TrodAll enc P W 0 (λ_=>true) true ts vs ds ps ->
   (∀ x ∈ ps,x.block < W.heap.size)->(∀ x ∈ ps,sp x.block=true)->DataW.TrodAll enc P W' 0 sp true ts vs ds ps:=by
 intro ts;induction ts with
 | nil=>intro vs ds ps _ h _ _;cases vs <;> cases ds <;> first | exact h | exact h.elim
 | cons t ts ih =>
  intro vs ds ps hts h hlt hsp;match vs,ds,h with
  | v :: vs,d :: ds,⟨p,q,h1,h2,e⟩ =>
   subst e;have ht:=hts t (List.mem_cons_self ..);exact ⟨p,q,WideElems.Trod_stays hl ht.1 ht.2 h1 (λx hx=>hb.same (hlt x (List.mem_append_left _ hx))) (λx hx=>hsp x (List.mem_append_left _ hx)),
    ih vs ds q (λt' h'=>hts t' (List.mem_cons_of_mem _ h')) h2 (λx hx=>hlt x (List.mem_append_right _ hx)) (λx hx=>hsp x (List.mem_append_right _ hx)),rfl⟩
end
theorem Tryz.laid:laidOutB Tryz.prog=true:=by kernel_rfl
section
variable {H : Type} {enc : TypeId × Value -> H}
theorem akX {f:Func} {s:ChangeSpec} {W W':World} {args:Array Value} {ds:List (DataW H)} {before:List MemPlace} (hts:∀ t ∈ f.params.toList,Tryz.prog.readableRec t=true/\t < Tryz.prog.types.size)
  (hv:s.vars=[]) (hres:f.resultTypes=#[4]) (hW:DataW.Whole enc Tryz.prog f.params.toList s.vars false W args.toList ds [] before)
  (hspec:s.fn H (ds ++ [])={ results:=[.lit (.bool true)],args:=ds }) (hb:Below W.heap.size W W'):s.post enc Tryz.prog f false true false false W args (.bool true) W':=by
 have hW':=hW;obtain ⟨p,q,hA,hV,rfl,hfz,hnd⟩:=hW;rw [hv] at hV;obtain ⟨_,rfl⟩:=trodVars_none hV;have hlt:∀ x ∈ p ++ [],x.block < W.heap.size:=λx hx=>hW'.lt x hx;rw [List.append_nil] at hlt;refine ah4 (pa:=p) (pv:=[]) hW' ?_ ?_ ?_ rfl hb ?_
 ·intro b sp hd;rw [hspec,hres];exact trodAll_cons_mk (shut_bool Tryz.underlying4 _) trodAll_mk0
 ·intro sp hsp;rw [hspec];exact ajS Tryz.laid hb _ _ _ _ hts hA hlt (λx hx=>hsp x (by simpa using hx))
 ·intro sp _;rw [hspec,hv];rfl
 ·exact ok_one hres rfl (okWide_bool_mk Tryz.underlying4 _)
end
end Go.Proofs.YtippdjmpkafifaaGreat
namespace Go.Proofs.YtippdjmpkafifaaGreat
open Go.ChangeShapes Go.WideShapes Go.Deep Go.RowKit
section
variable {H : Type} {enc : TypeId × Value -> H} {W : World} {base b0 : Nat} {spare : Nat -> Bool} {held : Bool} {r : Reach}
theorem akc {fuel:Nat} {v:Value} {x:DataW H × List MemPlace} (hf:DataW.trod enc Tryz.prog W b0 spare held fuel 45 [v] = some x):∃ A n c l,v=.slice A n c/\fB W A n l:=by
 rcases xq Tryz.underlying45 Tryz.underlying158 (by kernel_rfl) (by kernel_rfl) hf with ⟨hcs,_⟩ | ⟨a,len,cap,m,D,Pl,hcs,_,hlc,_,hm,_,hcell⟩
 ·simp at hcs;subst hcs;exact ⟨none,0,0,[],rfl,rfl,rfl,λh0=>absurd h0 (by omega)⟩
 ·simp at hcs;subst hcs;have hlm:len<=m:=by rw [hm];split <;> omega
  have key:∀ i,i < len->∃ p:Int × Int,W.cell? (a.add (i * 2))=some (.int .i64 p.1)/\W.cell? (a.add (i * 2 + 1))=some (.int .i64 p.2):=by
   intro i hi;obtain ⟨ys,n,_,_,_,hfld⟩:=hcell i (by omega);obtain ⟨v0,y0,c0,_,t0⟩:=hfld 0 _ rfl;obtain ⟨v1,y1,c1,_,t1⟩:=hfld 1 _ rfl;obtain ⟨n0,e0,_⟩:=DataW.trod_int Tryz.underlying3 t0;obtain ⟨n1,e1,_⟩:=DataW.trod_int Tryz.underlying3 t1;simp at e0 e1;subst e0 e1;exact ⟨(n0,n1),c0,c1⟩
  obtain ⟨l,hl,hq⟩:=sF key;exact ⟨_,_,_,l,rfl,hl.symm,by rw [ab8,hl],λ_=>⟨a,rfl,akb hq⟩⟩
theorem af4 {fuel:Nat} {v:Value} {x:DataW H × List MemPlace} (hf:DataW.trod enc Tryz.prog W b0 spare held fuel 48 [v] = some x):∃ A n c l,v=.slice A n c/\Ints W A n l:=by
 rcases open_slice Tryz.underlying48 hf with ⟨hcs,_⟩ | ⟨a,len,cap,m,n,D,Pl,hcs,_,hlc,_,hm,_,hcell⟩
 ·simp at hcs;subst hcs;exact ⟨none,0,0,[],rfl,rfl,rfl,λh0=>absurd h0 (by omega)⟩
 ·simp at hcs;subst hcs;have hC:Tryz.prog.cellsOf 3=1:=by kernel_rfl
  have hlm:len<=m:=by rw [hm];split <;> omega
  have key:∀ i,i < len->∃ p:Int,W.cell? (a.add i)=some (.int .i64 p):=by
   intro i hi;obtain ⟨cs',hc,ht'⟩:=hcell i (by omega);rw [hC,Nat.mul_one] at hc;obtain ⟨_,_,hat⟩:=World.cells?_some hc;obtain ⟨n0,e0,_⟩:=DataW.trod_int Tryz.underlying3 ht';subst e0;have h0:=hat 0 (by omega);rw [Go.Deep.add_add,Nat.add_zero] at h0;exact ⟨n0,h0⟩
  obtain ⟨l,hl,hq⟩:=sF key;refine ⟨_,_,_,l,rfl,hl.symm,by simp [intCells,hl],λ_=>⟨a,rfl,?_⟩⟩;intro j u hu;rw [intCells,List.getElem?_map] at hu;obtain ⟨y,hy,rfl⟩:=Option.map_eq_some_iff.1 hu;exact hq j y hy
theorem ain {w:World} {ad:Addr} {l:List Q} (h:∀ i q,l[i]? = some q->∀ j u,q.cells[j]? = some u->w.cell? (ad.add (i * 7 + j))=some u) :
  ∀ j u,(uP l)[j]? = some u->w.cell? (ad.add j)=some u:=by
 intro j u hu;have hj:j < (uP l).length:=(zE.1 hu).1;rw [aaU] at hj;have hp:l[j / 7]? = some (l[j / 7]'(by omega)):=zF (by omega);have hjj:j=j / 7 * 7 + j % 7:=by omega
 have g:=aaT l _ _ hp (j % 7) (by omega);rw [<-hjj,hu] at g;have:=h _ _ hp (j % 7) u g.symm;rwa [<-hjj] at this
theorem aio {fuel:Nat} {v:Value} {x:DataW H × List MemPlace} (hf:DataW.trod enc Tryz.prog W b0 spare held fuel 26 [v] = some x):∃ A n c l,v=.slice A n c/\bW W A n l:=by
 rcases xq Tryz.underlying26 Tryz.underlying47 (by kernel_rfl) (by kernel_rfl) hf with ⟨hcs,_⟩ | ⟨a,len,cap,m,D,Pl,hcs,_,hlc,_,hm,_,hcell⟩
 ·simp at hcs;subst hcs;exact ⟨none,0,0,[],rfl,rfl,⟨rfl,λh0=>absurd h0 (by omega)⟩,λq hq=>by simp at hq⟩
 ·simp at hcs;subst hcs;have hlm:len<=m:=by rw [hm];split <;> omega
  have key:∀ i,i < len->∃ q:Q,fB W q.A q.n q.l/\∀ j u,q.cells[j]? = some u->W.cell? (a.add (i * 7 + j))=some u:=by
   intro i hi;obtain ⟨ys,n,_,_,_,hfld⟩:=hcell i (by omega);obtain ⟨v0,y0,c0,_,t0⟩:=hfld 0 _ rfl;obtain ⟨v1,y1,c1,_,t1⟩:=hfld 1 _ rfl;obtain ⟨v2,y2,c2,_,t2⟩:=hfld 2 _ rfl;obtain ⟨v3,y3,c3,_,t3⟩:=hfld 3 _ rfl;obtain ⟨v4,y4,c4,_,t4⟩:=hfld 4 _ rfl;obtain ⟨v5,y5,c5,_,t5⟩:=hfld 5 _ rfl;obtain ⟨v6,y6,c6,_,t6⟩:=hfld 6 _ rfl;obtain ⟨n0,e0,_⟩:=DataW.trod_int Tryz.underlying3 t0;obtain ⟨n1,e1,_⟩:=DataW.trod_int Tryz.underlying3 t1;obtain ⟨n2,e2,_⟩:=DataW.trod_int Tryz.underlying3 t2;obtain ⟨n3,e3,_⟩:=DataW.trod_int Tryz.underlying3 t3;obtain ⟨n4,e4,_⟩:=DataW.trod_int Tryz.underlying3 t4;obtain ⟨n5,e5,_⟩:=DataW.trod_int Tryz.underlying3 t5;obtain ⟨A,nn,cc,l,rfl,hw⟩:=akc t6;simp at e0 e1 e2 e3 e4 e5;subst e0 e1 e2 e3 e4 e5;refine ⟨⟨n0,n1,n2,n3,n4,n5,A,nn,cc,l⟩,hw,?_⟩;intro j u hu;rcases j with _ | _ | _ | _ | _ | _ | _ | j <;> simp [Q.cells] at hu <;> subst hu <;> assumption
  obtain ⟨l,hl,hq⟩:=sF key;refine ⟨_,_,_,l,rfl,hl.symm,⟨by rw [aaU,hl],λ_=>⟨a,rfl,ain λi q hi=>(hq i q hi).2⟩⟩,?_⟩;intro q hq';obtain ⟨i,hi⟩:=List.mem_iff_getElem?.1 hq';exact (hq i q hi).1
theorem open_ints {v:Value} {d:DataW H} {ps:List MemPlace} (hval:Value.okWide Tryz.prog W r base 48 v) (h:DataW.Trod enc Tryz.prog W b0 spare held 48 v d ps):∃ A n c l,v=.slice A n c/\Ints W A n l:=by
 obtain ⟨a0,len,cap,rfl⟩:=okWide_slice Tryz.underlying48 hval;obtain ⟨fuel,hf⟩:=h;exact af4 hf
end
end Go.Proofs.YtippdjmpkafifaaGreat
namespace Go.Proofs.YtippdjmpkafifaaGreat
open Go.ChangeShapes Go.WideShapes Go.Deep Go.RowKit
section
variable {H : Type} {enc : TypeId × Value -> H} {W : World} {base b0 : Nat} {spare : Nat -> Bool} {held : Bool} {r : Reach}
theorem H9 {fuel:Nat} {v:Value} {x:DataW H × List MemPlace} (hf:DataW.trod enc Tryz.prog W b0 spare held fuel 48 [v] = some x):∃ A n c l,v=.slice A n c/\Ints W A n l/\n<=c:=by
 rcases open_slice Tryz.underlying48 hf with ⟨hcs,_⟩ | ⟨a,len,cap,m,n,D,Pl,hcs,_,hlc,_,hm,_,hcell⟩
 ·simp at hcs;subst hcs;exact ⟨none,0,0,[],rfl,⟨rfl,rfl,λh0=>absurd h0 (by omega)⟩,zG _⟩
 ·simp at hcs;subst hcs;have hC:Tryz.prog.cellsOf 3=1:=by kernel_rfl
  have hlm:len<=m:=by rw [hm];split <;> omega
  have key:∀ i,i < len->∃ p:Int,W.cell? (a.add i)=some (.int .i64 p):=by
   intro i hi;obtain ⟨cs',hc,ht'⟩:=hcell i (by omega);rw [hC,Nat.mul_one] at hc;obtain ⟨_,_,hat⟩:=World.cells?_some hc;obtain ⟨n0,e0,_⟩:=DataW.trod_int Tryz.underlying3 ht';subst e0;have h0:=hat 0 (by omega);rw [Go.Deep.add_add,Nat.add_zero] at h0;exact ⟨n0,h0⟩
  obtain ⟨l,hl,hq⟩:=sF key;refine ⟨_,_,_,l,rfl,⟨hl.symm,by simp [intCells,hl],λ_=>⟨a,rfl,?_⟩⟩,hlc⟩;intro j u hu;rw [intCells,List.getElem?_map] at hu;obtain ⟨y,hy,rfl⟩:=Option.map_eq_some_iff.1 hu;exact hq j y hy
theorem aiF {w:World} {ad:Addr} {l:List Ro} (h:∀ i q,l[i]? = some q->∀ j u,(qF q)[j]? = some u->w.cell? (ad.add (i * 4 + j))=some u) :
  ∀ j u,(l.flatMap qF)[j]? = some u->w.cell? (ad.add j)=some u:=by
 intro j u hu;have hj:j < (l.flatMap qF).length:=(zE.1 hu).1;rw [oD qF 4 (λ_=>rfl)] at hj;have hp:l[j / 4]? = some (l[j / 4]'(by omega)):=zF (by omega);have hjj:j=j / 4 * 4 + j % 4:=by omega
 have g:=flat_get qF 4 (λ_=>rfl) l _ _ hp (j % 4) (by omega);rw [<-hjj,hu] at g;have:=h _ _ hp (j % 4) u g.symm;rwa [<-hjj] at this
theorem aiG {fuel:Nat} {v:Value} {x:DataW H × List MemPlace} (hf:DataW.trod enc Tryz.prog W b0 spare held fuel 22 [v] = some x):∃ A n c l,v=.slice A n c/\jf W A n l:=by
 rcases xq Tryz.underlying22 Tryz.underlying134 (by kernel_rfl) (by kernel_rfl) hf with ⟨hcs,_⟩ | ⟨a,len,cap,m,D,Pl,hcs,_,hlc,_,hm,_,hcell⟩
 ·simp at hcs;subst hcs;exact ⟨none,0,0,[],rfl,rfl,rfl,λh0=>absurd h0 (by omega)⟩
 ·simp at hcs;subst hcs;have hlm:len<=m:=by rw [hm];split <;> omega
  have key:∀ i,i < len->∃ q:Ro,∀ j u,(qF q)[j]? = some u->W.cell? (a.add (i * 4 + j))=some u:=by
   intro i hi;obtain ⟨ys,n,_,_,_,hfld⟩:=hcell i (by omega);obtain ⟨v0,y0,c0,_,t0⟩:=hfld 0 _ rfl;obtain ⟨v1,y1,c1,_,t1⟩:=hfld 1 _ rfl;obtain ⟨v2,y2,c2,_,t2⟩:=hfld 2 _ rfl;obtain ⟨v3,y3,c3,_,t3⟩:=hfld 3 _ rfl;obtain ⟨n0,e0,_⟩:=DataW.trod_int Tryz.underlying3 t0;obtain ⟨n1,e1,_⟩:=DataW.trod_int Tryz.underlying3 t1;obtain ⟨n2,e2,_⟩:=DataW.trod_int Tryz.underlying3 t2;obtain ⟨n3,e3,_⟩:=DataW.trod_int Tryz.underlying3 t3;simp at e0 e1 e2 e3;subst e0 e1 e2 e3;refine ⟨⟨n0,n1,n2,n3⟩,?_⟩;intro j u hu;rcases j with _ | _ | _ | _ | j <;> simp [qF] at hu <;> subst hu <;> assumption
  obtain ⟨l,hl,hq⟩:=sF key;exact ⟨_,_,_,l,rfl,hl.symm,by rw [oD qF 4 (λ_=>rfl),hl],λ_=>⟨a,rfl,aiF λi q hi=>hq i q hi⟩⟩
end
end Go.Proofs.YtippdjmpkafifaaGreat
namespace Go.Proofs.YtippdjmpkafifaaGreat
open Go.ChangeShapes Go.WideShapes Go.Deep Go.RowKit
section
variable {H : Type} {enc : TypeId × Value -> H} {W : World} {base b0 : Nat} {spare : Nat -> Bool} {held : Bool} {r : Reach}
theorem agr {W:World} {ad:Addr} {l:List Lb} (h:∀ (i:Nat) (q:Lb),l[i]? = some q->∀ (j:Nat) (u:Value),(jR q)[j]? = some u->W.cell? (ad.add (i * 3 + j))=some u) :
  ∀ j u,(l.flatMap jR)[j]? = some u->W.cell? (ad.add j)=some u:=by
 intro j u hu;have hj:j < (l.flatMap jR).length:=(zE.1 hu).1;rw [oD jR 3 (λ_=>rfl)] at hj;have hp:l[j / 3]? = some (l[j / 3]'(by omega)):=zF (by omega);have hjj:j=j / 3 * 3 + j % 3:=by omega
 have g:=flat_get jR 3 (λ_=>rfl) l _ _ hp (j % 3) (by omega);rw [<-hjj,hu] at g;have:=h _ _ hp (j % 3) u g.symm;rwa [<-hjj] at this
theorem agu {fuel:Nat} {v:Value} {x:DataW H × List MemPlace} (hf:DataW.trod enc Tryz.prog W b0 spare held fuel 88 [v] = some x):∃ A n c l,v=.slice A n c/\dX W A n l:=by
 rcases xq Tryz.underlying88 Tryz.underlying167 (by kernel_rfl) (by kernel_rfl) hf with ⟨hcs,_⟩ | ⟨a,len,cap,m,D,Pl,hcs,_,hlc,_,hm,_,hcell⟩
 ·simp at hcs;subst hcs;exact ⟨none,0,0,[],rfl,rfl,rfl,λh0=>absurd h0 (by omega)⟩
 ·simp at hcs;subst hcs;have hlm:len<=m:=by rw [hm];split <;> omega
  have key:∀ i,i < len->∃ q:Lb,∀ j u,(jR q)[j]? = some u->W.cell? (a.add (i * 3 + j))=some u:=by
   intro i hi;obtain ⟨ys,n,_,_,_,hfld⟩:=hcell i (by omega);obtain ⟨v0,y0,c0,_,t0⟩:=hfld 0 _ rfl;obtain ⟨v1,y1,c1,_,t1⟩:=hfld 1 _ rfl;obtain ⟨v2,y2,c2,_,t2⟩:=hfld 2 _ rfl;obtain ⟨n0,e0,_⟩:=DataW.trod_int Tryz.underlying3 t0;obtain ⟨n1,e1,_⟩:=DataW.trod_int Tryz.underlying3 t1;obtain ⟨n2,e2,_⟩:=DataW.trod_int Tryz.underlying3 t2;simp at e0 e1 e2;subst e0 e1 e2;refine ⟨⟨n0,n1,n2⟩,?_⟩;intro j u hu;rcases j with _ | _ | _ | j <;> simp [jR] at hu <;> subst hu <;> assumption
  obtain ⟨l,hl,hq⟩:=sF key;exact ⟨_,_,_,l,rfl,hl.symm,by rw [oD jR 3 (λ_=>rfl),hl],λ_=>⟨a,rfl,agr λi q hi=>hq i q hi⟩⟩
end
end Go.Proofs.YtippdjmpkafifaaGreat
namespace Go.Proofs.YtippdjmpkafifaaGreat
open Go.ChangeShapes Go.WideShapes Go.Deep Go.RowKit
theorem Ih {α:Type} (f:α->List Value) (s:Nat) (hs:∀ x,(f x).length=s) (h0:0 < s) {w:World} {ad:Addr} {l:List α} (h:∀ (i:Nat) (q:α),l[i]? = some q->∀ (j:Nat) (u:Value),(f q)[j]? = some u->w.cell? (ad.add (i * s + j))=some u) :
  ∀ j u,(l.flatMap f)[j]? = some u->w.cell? (ad.add j)=some u:=by
 intro j u hu;have hj:j < (l.flatMap f).length:=(zE.1 hu).1;rw [oD f s hs] at hj;have hd:j / s < l.length:=Nat.div_lt_of_lt_mul (by rw [Nat.mul_comm];exact hj);have hp:l[j / s]? = some (l[j / s]'hd):=zF hd;have hm:j % s < s:=Nat.mod_lt _ h0;have hjj:j=j / s * s + j % s:=by rw [Nat.mul_comm];exact (Nat.div_add_mod j s).symm
 have g:=flat_get f s hs l _ _ hp (j % s) hm;rw [<-hjj,hu] at g;have:=h _ _ hp (j % s) u g.symm;rwa [<-hjj] at this
section
variable {H : Type} {enc : TypeId × Value -> H} {W : World} {base b0 : Nat} {spare : Nat -> Bool} {held : Bool} {r : Reach}
theorem ajp {fuel:Nat} {v:Value} {x:DataW H × List MemPlace} (hf:DataW.trod enc Tryz.prog W b0 spare held fuel 25 [v] = some x):∃ A n c l,v=.slice A n c/\Shifts W A n l/\n<=c:=by
 rcases xq Tryz.underlying25 Tryz.underlying63 (by kernel_rfl) (by kernel_rfl) hf with ⟨hcs,_⟩ | ⟨a,len,cap,m,D,Pl,hcs,_,hlc,_,hm,_,hcell⟩
 ·simp at hcs;subst hcs;exact ⟨none,0,0,[],rfl,⟨⟨rfl,rfl,λh0=>absurd h0 (by omega)⟩,λq hq=>by cases hq⟩,zG _⟩
 ·simp at hcs;subst hcs;have hlm:len<=m:=by rw [hm];split <;> omega
  have key:∀ i,i < len->∃ q:S,(Ints W q.A q.n q.l)/\∀ j u,(S.cells q)[j]? = some u->W.cell? (a.add (i * 6 + j))=some u:=by
   intro i hi;obtain ⟨ys,n,_,_,_,hfld⟩:=hcell i (by omega);obtain ⟨v0,y0,d0,_,t0⟩:=hfld 0 _ rfl;obtain ⟨v1,y1,d1,_,t1⟩:=hfld 1 _ rfl;obtain ⟨v2,y2,d2,_,t2⟩:=hfld 2 _ rfl;obtain ⟨v3,y3,d3,_,t3⟩:=hfld 3 _ rfl;obtain ⟨v4,y4,d4,_,t4⟩:=hfld 4 _ rfl;obtain ⟨v5,y5,d5,_,t5⟩:=hfld 5 _ rfl;obtain ⟨n0,e0,_⟩:=DataW.trod_int Tryz.underlying3 t0;obtain ⟨n1,e1,_⟩:=DataW.trod_int Tryz.underlying3 t1;obtain ⟨n2,e2,_⟩:=DataW.trod_int Tryz.underlying3 t2;obtain ⟨n3,e3,_⟩:=DataW.trod_int Tryz.underlying3 t3;obtain ⟨n4,e4,_⟩:=DataW.trod_int Tryz.underlying3 t4;obtain ⟨A5,m5,c5,l5,rfl,fQ,hc5⟩:=H9 t5;simp at e0 e1 e2 e3 e4;subst e0 e1 e2 e3 e4;refine ⟨⟨n0,n1,n2,n3,n4,A5,m5,c5,l5⟩,fQ,?_⟩;intro j u hu;rcases j with _ | _ | _ | _ | _ | _ | j <;> simp [S.cells] at hu <;> subst hu <;> assumption
  obtain ⟨l,hl,hq⟩:=sF key;have hall:∀ q ∈ l,Ints W q.A q.n q.l:=λq hq'=>by
   obtain ⟨i,hi⟩:=List.mem_iff_getElem?.1 hq';exact (hq i q hi).1
  exact ⟨_,_,_,l,rfl,⟨⟨hl.symm,by rw [oD S.cells 6 (λ_=>rfl),hl],λ_=>⟨a,rfl,Ih S.cells 6 (λ_=>rfl) (by omega) λi q hi=>(hq i q hi).2⟩⟩,hall⟩,hlc⟩
theorem ajQ {fuel:Nat} {v:Value} {x:DataW H × List MemPlace} (hf:DataW.trod enc Tryz.prog W b0 spare held fuel 27 [v] = some x):∃ A n c l,v=.slice A n c/\dY W A n l/\n<=c/\∀ q ∈ l,q.n<=q.c/\q.n'<=q.c':=by
 rcases xq Tryz.underlying27 Tryz.underlying80 (by kernel_rfl) (by kernel_rfl) hf with ⟨hcs,_⟩ | ⟨a,len,cap,m,D,Pl,hcs,_,hlc,_,hm,_,hcell⟩
 ·simp at hcs;subst hcs;exact ⟨none,0,0,[],rfl,⟨⟨rfl,rfl,λh0=>absurd h0 (by omega)⟩,λq hq=>by cases hq⟩,zG _,λq hq=>by cases hq⟩
 ·simp at hcs;subst hcs;have hlm:len<=m:=by rw [hm];split <;> omega
  have key:∀ i,i < len->∃ q:TV,((Ints W q.A q.n q.t.stops/\Ints W q.A' q.n' q.t.times)/\q.n<=q.c/\q.n'<=q.c')/\∀ j u,(TV.cells q)[j]? = some u->W.cell? (a.add (i * 4 + j))=some u:=by
   intro i hi;obtain ⟨ys,n,_,_,_,hfld⟩:=hcell i (by omega);obtain ⟨v0,y0,d0,_,t0⟩:=hfld 0 _ rfl;obtain ⟨v1,y1,d1,_,t1⟩:=hfld 1 _ rfl;obtain ⟨v2,y2,d2,_,t2⟩:=hfld 2 _ rfl;obtain ⟨v3,y3,d3,_,t3⟩:=hfld 3 _ rfl;obtain ⟨n0,e0,_⟩:=DataW.trod_int Tryz.underlying3 t0;obtain ⟨A1,m1,c1,l1,rfl,hI1,hc1⟩:=H9 t1;obtain ⟨A2,m2,c2,l2,rfl,hI2,hc2⟩:=H9 t2;obtain ⟨n3,e3,_⟩:=DataW.trod_int Tryz.underlying3 t3;simp at e0 e3;subst e0 e3;refine ⟨⟨n0,A1,m1,c1,A2,m2,c2,⟨l1,l2,n3⟩⟩,⟨⟨hI1,hI2⟩,hc1,hc2⟩,?_⟩;intro j u hu;rcases j with _ | _ | _ | _ | j <;> simp [TV.cells] at hu <;> subst hu <;> assumption
  obtain ⟨l,hl,hq⟩:=sF key;have hall:∀ q ∈ l,(Ints W q.A q.n q.t.stops/\Ints W q.A' q.n' q.t.times)/\q.n<=q.c/\q.n'<=q.c':=λq hq'=>by
   obtain ⟨i,hi⟩:=List.mem_iff_getElem?.1 hq';exact (hq i q hi).1
  exact ⟨_,_,_,l,rfl,⟨⟨hl.symm,by rw [oD TV.cells 4 (λ_=>rfl),hl],λ_=>⟨a,rfl,Ih TV.cells 4 (λ_=>rfl) (by omega) λi q hi=>(hq i q hi).2⟩⟩,λq h=>(hall q h).1⟩,hlc,λq h=>(hall q h).2⟩
theorem akW {v:Value} {d:DataW H} {ps:List MemPlace} (hval:Value.okWide Tryz.prog W r base 27 v) (h:DataW.Trod enc Tryz.prog W b0 spare held 27 v d ps):∃ A n c l,v=.slice A n c/\dY W A n l/\n<=c/\∀ q ∈ l,q.n<=q.c/\q.n'<=q.c':=by
 obtain ⟨a0,len,cap,rfl⟩:=okWide_slice Tryz.underlying27 hval;obtain ⟨fuel,hf⟩:=h;exact ajQ hf
theorem adh {fuel:Nat} {v:Value} {x:DataW H × List MemPlace} (hf:DataW.trod enc Tryz.prog W b0 spare held fuel 28 [v] = some x):∃ A n c l,v=.slice A n c/\fA W A n l/\n<=c/\∀ q ∈ l,q.vn<=q.vc:=by
 rcases xq Tryz.underlying28 Tryz.underlying90 (by kernel_rfl) (by kernel_rfl) hf with ⟨hcs,_⟩ | ⟨a,len,cap,m,D,Pl,hcs,_,hlc,_,hm,_,hcell⟩
 ·simp at hcs;subst hcs;exact ⟨none,0,0,[],rfl,⟨⟨rfl,rfl,λh0=>absurd h0 (by omega)⟩,λq hq=>by cases hq⟩,zG _,λq hq=>by cases hq⟩
 ·simp at hcs;subst hcs;have hlm:len<=m:=by rw [hm];split <;> omega
  have key:∀ i,i < len->∃ q:BV,((Ints W q.V q.vn q.v/\dX W q.LA q.ln q.lb)/\q.vn<=q.vc)/\∀ j u,(BV.cells q)[j]? = some u->W.cell? (a.add (i * 3 + j))=some u:=by
   intro i hi;obtain ⟨ys,n,_,_,_,hfld⟩:=hcell i (by omega);obtain ⟨v0,y0,d0,_,t0⟩:=hfld 0 _ rfl;obtain ⟨v1,y1,d1,_,t1⟩:=hfld 1 _ rfl;obtain ⟨v2,y2,d2,_,t2⟩:=hfld 2 _ rfl;obtain ⟨n0,e0,_⟩:=DataW.trod_int Tryz.underlying3 t0;obtain ⟨A1,m1,c1,l1,rfl,hI1,hc1⟩:=H9 t1;obtain ⟨A2,m2,c2,l2,rfl,hI2⟩:=agu t2;simp at e0;subst e0;refine ⟨⟨n0,A1,m1,c1,l1,A2,m2,c2,l2⟩,⟨⟨hI1,hI2⟩,hc1⟩,?_⟩;intro j u hu;rcases j with _ | _ | _ | j <;> simp [BV.cells] at hu <;> subst hu <;> assumption
  obtain ⟨l,hl,hq⟩:=sF key;have hall:∀ q ∈ l,(Ints W q.V q.vn q.v/\dX W q.LA q.ln q.lb)/\q.vn<=q.vc:=λq hq'=>by
   obtain ⟨i,hi⟩:=List.mem_iff_getElem?.1 hq';exact (hq i q hi).1
  exact ⟨_,_,_,l,rfl,⟨⟨hl.symm,by rw [oD BV.cells 3 (λ_=>rfl),hl],λ_=>⟨a,rfl,Ih BV.cells 3 (λ_=>rfl) (by omega) λi q hi=>(hq i q hi).2⟩⟩,λq h=>(hall q h).1⟩,hlc,λq h=>(hall q h).2⟩
end
end Go.Proofs.YtippdjmpkafifaaGreat
namespace Go.Proofs.YtippdjmpkafifaaGreat
open Go.RowKit
structure AV where
 acc:Bool
 PA:Option Addr
 pn:Nat
 pc:Nat
 ts:List TV
 VA:Option Addr
 vn:Nat
 vc:Nat
 v:List Int
 RA:Option Addr
 rn:Nat
 rc:Nat
 bl:List BV
def AV.zero:AV:=⟨false,none,0,0,[],none,0,0,[],none,0,0,[]⟩
def Cs.zero:Cs:=⟨0,none,0,0,[],none,0,0,[],none,0,0,[]⟩
end Go.Proofs.YtippdjmpkafifaaGreat
