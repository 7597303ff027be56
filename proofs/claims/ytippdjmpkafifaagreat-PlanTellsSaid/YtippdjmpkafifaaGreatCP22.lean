import Derived.Test.YtippdjmpkafifaaGreatCP14
import Derived.Test.YtippdjmpkafifaaGreatCP15
import Derived.Test.YtippdjmpkafifaaGreatCP21
import Derived.Deep.Slices
import Derived.Deep.Fields
import Derived.ChangeSame
import Derived.ProofKit
import Derived.OpenShut
import Derived.Test.YtippdjmpkafifaaGreatCP1
import Derived.Test.YtippdjmpkafifaaGreatCP4
import Derived.Test.YtippdjmpkafifaaGreatCP6
import Derived.Test.YtippdjmpkafifaaGreatCP12
namespace Go.Proofs.YtippdjmpkafifaaGreat
open Go.RowKit
namespace K
section
variable (A2 : Option Addr) (c2 : Nat)
theorem x32_1:plan 2 exL32 [exS32 A2 c2,exS32 A2 c2] ([3,2].map exQ32)=([(0,⟨[0,1],[10,15],30⟩)],0):=by kernel_rfl
theorem x32_2:plan 2 exL32 [exS32 A2 c2,exS32 A2 c2] ([3,3,2].map exQ32)=([(0,⟨[0,2],[10,15],30⟩),(1,⟨[1],[10],25⟩)],0):=by kernel_rfl
theorem x32_3:plan 2 exL32 [exS32 A2 c2,exS32 A2 c2] ([3,3,3].map exQ32)=([],4):=by kernel_rfl
theorem x32_4:((refute 2 exL32 [exS32 A2 c2,exS32 A2 c2] ([3,3,3].map exQ32)).1.map fun b=>((b.1:Int),b.2.1))=[(0,[0,1]),(0,[0,2]),(0,[1,2]),(1,[0,1]),(1,[0,2]),(1,[1,2])]:=by kernel_rfl
theorem x32_5:refutes 2 exL32 [exS32 A2 c2,exS32 A2 c2] ([3,3,3].map exQ32) (((refute 2 exL32 [exS32 A2 c2,exS32 A2 c2] ([3,3,3].map exQ32)).1.map fun b=>((b.1:Int),b.2)).drop 1)=false:=by kernel_rfl
theorem x32_6:(refute 2 exL32 [exS32 A2 c2,exS32 A2 c2] ([3,3,3].map exQ32)).2=0∧refutes 2 exL32 [exS32 A2 c2,exS32 A2 c2] ([3,3,3].map exQ32) ((refute 2 exL32 [exS32 A2 c2,exS32 A2 c2] ([3,3,3].map exQ32)).1.map fun b=>((b.1:Int),b.2))=true:=refute_refutes (by simp) (by simp) (by rw [x32_3])
theorem x32_7:checks 2 exL32 [exS32 A2 c2,exS32 A2 c2] ([3,3,2].map exQ32) [(0,⟨[0,2],[10,15],30⟩),(1,⟨[1],[10],25⟩)] = 0:=by
 have h:=plan_checks (nd:=2) (l:=exL32) (ss:=[exS32 A2 c2,exS32 A2 c2]) (r:=[3,3,2].map exQ32) (by rw [x32_2])
 rw [x32_2] at h
 exact h
end
end K
theorem map_at {α β:Type} {f:α→β} {l:List α} {m:List β} (h:l.map f=m) {i:Nat} {x:α} (hx:l[i]? = some x) {y:β} (hy:m[i]? = some y):f x=y:=by
 rw [←h,List.getElem?_map,hx] at hy
 injection hy
theorem Blks.drop1 {w:World} {A:Option Addr} {n:Nat} {l:List BV} (h:Blks w A (n + 1) l) {ad:Addr} (e:A=some ad) (h0:0 < n):Blks w (some (ad.add 3)) n (l.drop 1):=by
 subst e
 have h1:=h.1.1
 cases l with
 | nil=>simp at h1
 | cons y l =>
  rw [List.length_cons] at h1
  refine ⟨⟨by simp;omega,?_⟩,fun z hz=>h.2 z (List.mem_of_mem_drop hz)⟩
  rw [List.drop_succ_cons,List.drop_zero]
  obtain ⟨hl,hc⟩:=h.1.2
  rw [List.flatMap_cons,List.length_append] at hl
  have hy:y.cells.length=3:=rfl
  refine ⟨by omega,fun _=>?_⟩
  obtain ⟨ad',e,hc⟩:=hc (by omega)
  injection e with e
  subst e
  refine ⟨_,rfl,fun j u hu=>?_⟩
  rw [add_add]
  refine hc (3 + j) u ?_
  rw [List.flatMap_cons,List.getElem?_append_right (by rw [hy];omega),hy,show 3 + j - 3=j by omega]
  exact hu
structure Ex32At (w:World) (A:Option Addr) (c:Nat) (A2:Option Addr) (c2:Nat) (SA:Option Addr) (sc:Nat):Prop where
 net:Roads w A 2 K.exL32
 shifts:Shifts w SA 2 [K.exS32 A2 c2,K.exS32 A2 c2]
theorem Ex32At.below {w w':World} {A:Option Addr} {c:Nat} {A2:Option Addr} {c2:Nat} {SA:Option Addr} {sc:Nat} (h:Ex32At w A c A2 c2 SA sc) (hb:Below w.heap.size w w'):Ex32At w' A c A2 c2 SA sc:=⟨Lst.below h.net hb,h.shifts.below hb⟩
theorem Ex32At.case {w:World} {A:Option Addr} {c:Nat} {A2:Option Addr} {c2:Nat} {SA:Option Addr} {sc:Nat} (h:Ex32At w A c A2 c2 SA sc) {B:Option Addr} {m d:Nat} {l:List Int} (hQ:Reqs w B m (l.map K.exQ32)) (hm:m≤1000):CsAt w ⟨2,A,2,c,K.exL32,SA,2,sc,[K.exS32 A2 c2,K.exS32 A2 c2],B,m,d,l.map K.exQ32⟩:=by
 refine ⟨h.net,h.shifts,hQ,(show 2≤1000000000 by decide),fun s hs=>?_,(show 2≤1000000000 by decide),(show m≤1000000000 by omega),fun q hq=>?_⟩
 ·simp only [List.mem_cons,List.not_mem_nil,or_false] at hs
  rcases hs with rfl | rfl <;> exact (by decide:1≤1000000000)
 ·obtain ⟨z,-,rfl⟩:=List.mem_map.1 hq
  exact (by decide:0≤1000000000)
set_option maxRecDepth 100000 in
set_option maxHeartbeats 32000000 in
theorem small_any (w:World):Calls Tryz.prog 16 #[] w fun e w'=>e=.returned (.bool true)∧Below w.heap.size w w':=by
 go_enter Tryz.func16,Tryz.ntmps16
 have hLx:Ints (w.alloc (.cells #[.int .i64 3,.int .i64 2] 3)) (some ⟨w.heap.size,0,none⟩) 2 [3,2]:=ints_lit w [3,2]
 have bl:Below w.heap.size w (w.alloc (.cells #[.int .i64 3,.int .i64 2] 3)):=(Below.refl _ _).alloc (Nat.le_refl _) _
 go_wp2_with fail
 refine (example32_any _ 2 2 [3,2] _ hLx (by decide)).mono ?_
 rintro e w0a ⟨⟨X,⟨Ax,cx,Ex,fx,Sx,sx,Bx,dx,rfl⟩,hAx,rfl⟩,b⟩
 dsimp only at hAx ⊢
 have hb:=bel bl b
 clear bl hLx
 clear b
 obtain ⟨w0,hq⟩:∃ w0:World,w0=w0a.alloc (.cells #[.int .i64 2,.slice Ax 2 cx] 24):=⟨_,rfl⟩
 have z0:w0.heap.size=w0a.heap.size + 1:=by rw [hq];exact World.size_alloc _ _
 have b:Below w0a.heap.size w0a w0:=by rw [hq];exact (Below.refl _ _).alloc (Nat.le_refl _) _
 have hP:Net w0 w0a.heap.size 2 Ax 2 cx:=by rw [hq];exact Net.new _ _ _ _ _
 have hE:Ex32At w0 Ax cx Ex fx Sx sx:=⟨Lst.below hAx.net b,hAx.shifts.below b⟩
 have hb:=bel hb b
 have hQx:Reqs w0 Bx 2 ([3,2].map K.exQ32):=hAx.reqs.below b
 clear hAx b
 have hLy:Ints (w0.alloc (.cells #[.int .i64 3,.int .i64 3,.int .i64 2] 3)) (some ⟨w0.heap.size,0,none⟩) 3 [3,3,2]:=ints_lit w0 [3,3,2]
 have bl:Below w0.heap.size w0 (w0.alloc (.cells #[.int .i64 3,.int .i64 3,.int .i64 2] 3)):=(Below.refl _ _).alloc (Nat.le_refl _) _
 rw [z0] at hLy
 rw [hq] at hLy
 go_wp2_with fail
 refine (example32_any _ 3 3 [3,3,2] _ hLy (by decide)).mono ?_
 rw [←hq]
 rintro e w1a ⟨⟨X,⟨Ay,cy,Ey,fy,Sy,sy,By,dy,rfl⟩,hAy,rfl⟩,b⟩
 dsimp only at hAy ⊢
 have b:=bel bl b
 clear bl hLy
 have hP:=hP.below b
 have hE:=hE.below b
 have hb:=bel hb b
 have hQx:=hQx.below b
 clear hq b z0
 obtain ⟨w1,hq⟩:∃ w1:World,w1=w1a.alloc (.cells #[.int .i64 2,.slice Ay 2 cy] 24):=⟨_,rfl⟩
 have z0:w1.heap.size=w1a.heap.size + 1:=by rw [hq];exact World.size_alloc _ _
 have b:Below w1a.heap.size w1a w1:=by rw [hq];exact (Below.refl _ _).alloc (Nat.le_refl _) _
 have hP:=hP.below b
 have hE:=hE.below b
 have hb:=bel hb b
 have hQx:=hQx.below b
 have hQy:Reqs w1 By 3 ([3,3,2].map K.exQ32):=hAy.reqs.below b
 clear hAy b
 have hLz:Ints (w1.alloc (.cells #[.int .i64 3,.int .i64 3,.int .i64 3] 3)) (some ⟨w1.heap.size,0,none⟩) 3 [3,3,3]:=ints_lit w1 [3,3,3]
 have bl:Below w1.heap.size w1 (w1.alloc (.cells #[.int .i64 3,.int .i64 3,.int .i64 3] 3)):=(Below.refl _ _).alloc (Nat.le_refl _) _
 rw [z0] at hLz
 rw [hq] at hLz
 go_wp2_with fail
 refine (example32_any _ 3 3 [3,3,3] _ hLz (by decide)).mono ?_
 rw [←hq]
 rintro e w2a ⟨⟨X,⟨Az,cz,Ez,fz,Sz,sz,Bz,dz,rfl⟩,hAz,rfl⟩,b⟩
 dsimp only at hAz ⊢
 have b:=bel bl b
 clear bl hLz
 have hP:=hP.below b
 have hE:=hE.below b
 have hb:=bel hb b
 have hQx:=hQx.below b
 have hQy:=hQy.below b
 clear hq b z0
 obtain ⟨w2,hq⟩:∃ w2:World,w2=w2a.alloc (.cells #[.int .i64 2,.slice Az 2 cz] 24):=⟨_,rfl⟩
 have z0:w2.heap.size=w2a.heap.size + 1:=by rw [hq];exact World.size_alloc _ _
 have b:Below w2a.heap.size w2a w2:=by rw [hq];exact (Below.refl _ _).alloc (Nat.le_refl _) _
 have hP:=hP.below b
 have hE:=hE.below b
 have hb:=bel hb b
 have hQx:=hQx.below b
 have hQy:=hQy.below b
 have hQz:Reqs w2 Bz 3 ([3,3,3].map K.exQ32):=hAz.reqs.below b
 clear hAz b
 have p0:=hP.c0
 have p1:=hP.c1
 rw [hq] at p0 p1
 go_wp2_with fail
 rw [←hq]
 refine (plan32_any ⟨2,Ax,2,cx,K.exL32,Sx,2,sx,[K.exS32 Ex fx,K.exS32 Ex fx],Bx,2,dx,[3,2].map K.exQ32⟩ _ (hE.case hQx (by decide))).mono ?_
 dsimp only
 rw [K.x32_1]
 rintro e w3 ⟨⟨Pa,na,ka,la,rfl,hTa,-,hla⟩,b⟩
 dsimp only at hla ⊢
 have hla:la.map TV.pr=[(0,⟨[0,1],[10,15],30⟩)]:=hla
 obtain rfl:na=1:=by rw [hTa.1.1,←List.length_map (f:=TV.pr),hla];rfl
 have hP:=hP.below b
 have hE:=hE.below b
 have hb:=bel hb b
 have hQx:=hQx.below b
 have hQy:=hQy.below b
 have hQz:=hQz.below b
 clear p0 p1 b hq z0
 have p0:=hP.c0
 have p1:=hP.c1
 go_wp2_with fail
 refine (plan32_any ⟨2,Ax,2,cx,K.exL32,Sx,2,sx,[K.exS32 Ex fx,K.exS32 Ex fx],By,3,dy,[3,3,2].map K.exQ32⟩ _ (hE.case hQy (by decide))).mono ?_
 dsimp only
 rw [K.x32_2]
 rintro e w4 ⟨⟨Pb,nb,kb,lb,rfl,hTb,-,hlb⟩,b⟩
 dsimp only at hlb ⊢
 have hlb:lb.map TV.pr=[(0,⟨[0,2],[10,15],30⟩),(1,⟨[1],[10],25⟩)]:=hlb
 obtain rfl:nb=2:=by rw [hTb.1.1,←List.length_map (f:=TV.pr),hlb];rfl
 have hP:=hP.below b
 have hE:=hE.below b
 have hb:=bel hb b
 have hQx:=hQx.below b
 have hQy:=hQy.below b
 have hQz:=hQz.below b
 have hTa:=hTa.below b
 clear p0 p1 b
 have p0:=hP.c0
 have p1:=hP.c1
 go_wp2_with fail
 refine (plan32_any ⟨2,Ax,2,cx,K.exL32,Sx,2,sx,[K.exS32 Ex fx,K.exS32 Ex fx],Bz,3,dz,[3,3,3].map K.exQ32⟩ _ (hE.case hQz (by decide))).mono ?_
 dsimp only
 rw [K.x32_3]
 rintro e w5 ⟨⟨Pg,ng,kg,lg,rfl,hTg,-,hlg⟩,b⟩
 dsimp only at hlg ⊢
 have hlg:lg.map TV.pr=[]:=hlg
 obtain rfl:ng=0:=by rw [hTg.1.1,←List.length_map (f:=TV.pr),hlg];rfl
 have hP:=hP.below b
 have hE:=hE.below b
 have hb:=bel hb b
 have hQx:=hQx.below b
 have hQy:=hQy.below b
 have hQz:=hQz.below b
 have hTa:=hTa.below b
 have hTb:=hTb.below b
 clear p0 p1 b
 clear hTg hlg
 have p0:=hP.c0
 have p1:=hP.c1
 go_wp2_with fail
 obtain ⟨rf,hrf⟩:∃ rf,rf=K.refute 2 K.exL32 [K.exS32 Ex fx,K.exS32 Ex fx] ([3,3,3].map K.exQ32):=⟨_,rfl⟩
 have hr1:=K.x32_4 Ex fx
 have hr2:=K.x32_5 Ex fx
 have hr3:=K.x32_6 Ex fx
 rw [←hrf] at hr1 hr2 hr3
 refine (refute32_any ⟨2,Ax,2,cx,K.exL32,Sx,2,sx,[K.exS32 Ex fx,K.exS32 Ex fx],Bz,3,dz,[3,3,3].map K.exQ32⟩ _ (hE.case hQz (by decide))).mono ?_
 dsimp only
 rw [←hrf,hr3.1]
 clear hrf
 rintro e w6 ⟨⟨Pc,nc,kc,lc,rfl,hTc,hkc,hFc,hlc⟩,b⟩
 have hr4:=hr3.2
 rw [←hlc] at hr2 hr4
 have hr5:lc.map (fun y=>(y.sh,y.v))=[(0,[0,1]),(0,[0,2]),(0,[1,2]),(1,[0,1]),(1,[0,2]),(1,[1,2])]:=by
  rw [←hr1,show (fun y:BV=>(y.sh,y.v))=(fun z:Int × List Int × List Lb=>(z.1,z.2.1)) ∘ BV.pr from rfl,←List.map_map,hlc,List.map_map];rfl
 obtain rfl:nc=6:=by rw [hTc.1.1,←List.length_map (f:=fun y:BV=>(y.sh,y.v)),hr5];rfl
 clear hr1 hr3 hlc
 have hP:=hP.below b
 have hE:=hE.below b
 have hb:=bel hb b
 have hQx:=hQx.below b
 have hQy:=hQy.below b
 have hQz:=hQz.below b
 have hTa:=hTa.below b
 have hTb:=hTb.below b
 clear p0 p1 b
 obtain ⟨ol,hol⟩:∃ ol:List Obj,ol=[.cells #[.int .i64 0,.int .i64 1] 3,.cells #[.int .i64 10,.int .i64 15] 3,.cells #[.int .i64 0,.slice (some ⟨w6.heap.size,0,none⟩) 2 2,.slice (some ⟨w6.heap.size + 1,0,none⟩) 2 2,.int .i64 30] 80]:=⟨_,rfl⟩
 obtain ⟨w7,hq⟩:∃ W:World,W=Als w6 ol:=⟨_,rfl⟩
 have b:=Als.below ol w6
 have hget:=Als.get ol w6
 rw [←hq] at b hget
 have e0:=hget 0 _ (by rw [hol];rfl)
 have e1:=hget 1 _ (by rw [hol];rfl)
 have e2:=hget 2 _ (by rw [hol];rfl)
 rw [hol] at hq
 simp only [Als] at hq
 clear hget hol
 have hP:=hP.below b
 have hE:=hE.below b
 have hb:=bel hb b
 have hQx:=hQx.below b
 have hQy:=hQy.below b
 have hQz:=hQz.below b
 have hTa:=hTa.below b
 have hTb:=hTb.below b
 have hTc:=hTc.below b
 have hTl:Tours w7 (some ⟨w6.heap.size + 1 + 1,0,none⟩) 1 [(⟨0,some ⟨w6.heap.size,0,none⟩,2,2,some ⟨w6.heap.size + 1,0,none⟩,2,2,⟨[0,1],[10,15],30⟩⟩:TV)]:=⟨⟨rfl,Rd.of_block (cs:=([(⟨0,some ⟨w6.heap.size,0,none⟩,2,2,some ⟨w6.heap.size + 1,0,none⟩,2,2,⟨[0,1],[10,15],30⟩⟩:TV)].flatMap TV.cells).toArray) e2 4 1 rfl⟩,fun y hy=>(by rw [List.mem_singleton.1 hy];exact ⟨⟨rfl,Rd.of_block e0 1 2 rfl⟩,⟨rfl,Rd.of_block e1 1 2 rfl⟩⟩)⟩
 have CS:=sameTours_any Pa (some ⟨w6.heap.size + 1 + 1,0,none⟩) 1 1 ka 1 la [(⟨0,some ⟨w6.heap.size,0,none⟩,2,2,some ⟨w6.heap.size + 1,0,none⟩,2,2,⟨[0,1],[10,15],30⟩⟩:TV)] w7 hTa hTl (by decide) (by decide) (fun y hy=>(by have:=(fewT_of hTa (by rw [hla,←List.length_map (f:=TV.pr),hla];exact ⟨by decide,fun t ht=>(by rw [List.mem_singleton.1 ht];exact ⟨by decide,by decide⟩)⟩)).2 y hy;omega)) (fun y hy=>(by rw [List.mem_singleton.1 hy];exact ⟨(show 2≤1000000000 by decide),(show 2≤1000000000 by decide)⟩))
 clear b e0 e1 e2
 go_wp2_with fail
 rw [←hq]
 refine CS.mono ?_
 rintro e w8 ⟨⟨z,rfl,hz⟩,b⟩
 obtain rfl:z=true:=hz.2 (by rw [hla];rfl)
 have hP:=hP.below b
 have hE:=hE.below b
 have hb:=bel hb b
 have hQx:=hQx.below b
 have hQy:=hQy.below b
 have hQz:=hQz.below b
 have hTa:=hTa.below b
 have hTb:=hTb.below b
 have hTc:=hTc.below b
 clear CS hTl hz b hq hTa hla
 obtain ⟨ab,y0,hPb,hy0,⟨hI0,-⟩,c0,c1,-,-⟩:=hTb.at_ (k:=0) (by decide)
 obtain ⟨ab2,y1,hPb2,hy1,⟨hI1,-⟩,d0,d1,-,-⟩:=hTb.at_ (k:=1) (by decide)
 rw [hPb] at hPb2
 injection hPb2 with hPb2
 subst hPb2
 have hp0:=map_at hlb hy0 (y:=(0,⟨[0,2],[10,15],30⟩)) rfl
 have hp1:=map_at hlb hy1 (y:=(1,⟨[1],[10],25⟩)) rfl
 have hs0:y0.sh=0:=congrArg Prod.fst hp0
 have hs1:y1.sh=1:=congrArg Prod.fst hp1
 have hv0:y0.t.stops=[0,2]:=congrArg (fun z:Int × K.Tr=>z.2.stops) hp0
 have hv1:y1.t.stops=[1]:=congrArg (fun z:Int × K.Tr=>z.2.stops) hp1
 have hn0:y0.n=2:=by rw [hI0.1,hv0];rfl
 have hn1:y1.n=1:=by rw [hI1.1,hv1];rfl
 rw [hv0,hn0] at hI0
 rw [hv1,hn1] at hI1
 rw [hs0] at c0
 rw [hs1] at d0
 rw [hn0] at c1
 rw [hn1] at d1
 clear hp0 hp1 hs0 hs1 hv0 hv1 hn0 hn1 hy0 hy1
 have ha0:ab.add (0 * 4)=ab:=by cases ab;rfl
 rw [ha0] at c0 c1
 have dd0:w8.cell? ⟨ab.block,ab.off + 4,none⟩=some (.int .i64 1):=d0
 have dd1:w8.cell? ⟨ab.block,ab.off + 4 + 1,none⟩=some (.slice y1.A 1 y1.c):=d1
 have dd2:w8.cell? ⟨ab.block,ab.off + 5,none⟩=some (.slice y1.A 1 y1.c):=d1
 clear d0 d1
 clear ha0
 rw [hPb]
 have hL:Ints (w8.alloc (.cells #[.int .i64 0,.int .i64 2] 3)) (some ⟨w8.heap.size,0,none⟩) 2 [0,2]:=ints_lit w8 [0,2]
 have bl:Below w8.heap.size w8 (w8.alloc (.cells #[.int .i64 0,.int .i64 2] 3)):=(Below.refl _ _).alloc (Nat.le_refl _) _
 go_wp2_with fail
 refine (sameInts28_any y0.A _ 2 2 y0.c 2 [0,2] [0,2] _ (hI0.below bl) hL (by decide) (by decide)).mono ?_
 rintro e w9 ⟨rfl,b⟩
 have b:=bel bl b
 have mv:∀ {p:Addr} {v:Value},w8.cell? p=some v→w9.cell? p=some v:=fun h=>(b.cell (cell_lt h)).trans h
 have dd1:=mv dd1
 have dd2:=mv dd2
 have hP:=hP.below b
 have hE:=hE.below b
 have hb:=bel hb b
 have hQx:=hQx.below b
 have hQy:=hQy.below b
 have hQz:=hQz.below b
 have hTb:=hTb.below b
 have hTc:=hTc.below b
 have hI0:=hI0.below b
 have hI1:=hI1.below b
 clear mv hL bl b
 clear c0 c1 dd0
 have hL:Ints (w9.alloc (.cells #[.int .i64 1] 3)) (some ⟨w9.heap.size,0,none⟩) 1 [1]:=ints_lit w9 [1]
 have bl:Below w9.heap.size w9 (w9.alloc (.cells #[.int .i64 1] 3)):=(Below.refl _ _).alloc (Nat.le_refl _) _
 go_wp2_with fail
 refine (sameInts28_any y1.A _ 1 1 y1.c 1 [1] [1] _ (hI1.below bl) hL (by decide) (by decide)).mono ?_
 rintro e w10 ⟨rfl,b⟩
 have b:=bel bl b
 have mv:∀ {p:Addr} {v:Value},w9.cell? p=some v→w10.cell? p=some v:=fun h=>(b.cell (cell_lt h)).trans h
 have hP:=hP.below b
 have hE:=hE.below b
 have hb:=bel hb b
 have hQx:=hQx.below b
 have hQy:=hQy.below b
 have hQz:=hQz.below b
 have hTb:=hTb.below b
 have hTc:=hTc.below b
 have hI0:=hI0.below b
 have hI1:=hI1.below b
 clear mv hL bl b
 clear dd1 dd2 hI0 hI1
 obtain ⟨ac,z0,hPc,hz0,-,c0,-,-⟩:=hTc.at_ (k:=0) (by decide)
 obtain ⟨ac1,z1,e1,hz1,⟨hI1,-⟩,-,c1,-⟩:=hTc.at_ (k:=1) (by decide)
 obtain ⟨ac5,z5,e5,hz5,⟨hI5,-⟩,c5,c6,-⟩:=hTc.at_ (k:=5) (by decide)
 rw [hPc] at e1 e5
 injection e1 with e1
 injection e5 with e5
 subst e1 e5
 have q0:=map_at hr5 hz0 (y:=(0,[0,1])) rfl
 have q1:=map_at hr5 hz1 (y:=(0,[0,2])) rfl
 have q5:=map_at hr5 hz5 (y:=(1,[1,2])) rfl
 have hs0:z0.sh=0:=congrArg Prod.fst q0
 have hv1:z1.v=[0,2]:=congrArg Prod.snd q1
 have hs5:z5.sh=1:=congrArg Prod.fst q5
 have hv5:z5.v=[1,2]:=congrArg Prod.snd q5
 have hn1:z1.vn=2:=by rw [hI1.1,hv1];rfl
 have hn5:z5.vn=2:=by rw [hI5.1,hv5];rfl
 rw [hv1,hn1] at hI1
 rw [hv5,hn5] at hI5
 rw [hs0] at c0
 rw [hn1] at c1
 rw [hs5] at c5
 rw [hn5] at c6
 have ha0:ac.add (0 * 3)=ac:=by cases ac;rfl
 rw [ha0] at c0
 have cc1:w10.cell? ⟨ac.block,ac.off + 3 + 1,none⟩=some (.slice z1.V 2 z1.vc):=c1
 have cc5:w10.cell? ⟨ac.block,ac.off + 15,none⟩=some (.int .i64 1):=c5
 have cc6:w10.cell? ⟨ac.block,ac.off + 15 + 1,none⟩=some (.slice z5.V 2 z5.vc):=c6
 clear q0 q1 q5 hs0 hv1 hs5 hv5 hn1 hn5 c1 c5 c6 ha0 hz0 hz1 hz5
 have hTd:=hTc.drop1 hPc (by decide)
 obtain ⟨ac3,hac3⟩:∃ ac3:Addr,ac3=⟨ac.block,ac.off + 3,none⟩:=⟨_,rfl⟩
 have hTd:Blks w10 (some ac3) 5 (lc.drop 1):=by rw [hac3];exact hTd
 rw [hPc] at hTc
 rw [hPc]
 have p0:=hP.c0
 have p1:=hP.c1
 have hk1:¬ kc=1:=by omega
 have L1:Calls Tryz.prog 50 #[.slice z1.V 2 z1.vc,.slice (some ⟨w10.heap.size,0,none⟩) 2 2] (w10.alloc (.cells #[.int .i64 0,.int .i64 2] 3)).drew fun e w'=>e=.returned (.bool true)∧Below w10.heap.size w10 w':=by
  have bl:Below w10.heap.size w10 (w10.alloc (.cells #[.int .i64 0,.int .i64 2] 3)).drew:=((Below.refl _ _).alloc (Nat.le_refl _) _).drew
  exact (sameInts28_any z1.V _ 2 2 z1.vc 2 [0,2] [0,2] _ (hI1.below bl) ((ints_lit w10 [0,2]).below (Below.refl _ _).drew) (by decide) (by decide)).mono fun e w' h=>⟨h.1,bel bl h.2⟩
 have L2:∀ w':World,Below w10.heap.size w10 w'→Calls Tryz.prog 50 #[.slice z5.V 2 z5.vc,.slice (some ⟨w'.heap.size,0,none⟩) 2 2] (w'.alloc (.cells #[.int .i64 1,.int .i64 2] 3)) fun e w''=>e=.returned (.bool true)∧Below w10.heap.size w10 w'':=fun w' hb'=>by
  have bl:Below w'.heap.size w' (w'.alloc (.cells #[.int .i64 1,.int .i64 2] 3)):=(Below.refl _ _).alloc (Nat.le_refl _) _
  exact (sameInts28_any z5.V _ 2 2 z5.vc 2 [1,2] [1,2] _ ((hI5.below hb').below bl) (ints_lit w' [1,2]) (by decide) (by decide)).mono fun e w'' h=>⟨h.1,bel hb' (bel bl h.2)⟩
 have M2:∀ w':World,Below w10.heap.size w10 w'→Calls Tryz.prog 50 #[.slice z5.V 2 z5.vc,.slice (some ⟨w'.heap.size,0,none⟩) 2 2] (w'.alloc (.cells #[.int .i64 1,.int .i64 2] 3)).drew fun e w''=>e=.returned (.bool true)∧Below w10.heap.size w10 w'':=fun w' hb'=>by
  have bl:Below w'.heap.size w' (w'.alloc (.cells #[.int .i64 1,.int .i64 2] 3)).drew:=((Below.refl _ _).alloc (Nat.le_refl _) _).drew
  exact (sameInts28_any z5.V _ 2 2 z5.vc 2 [1,2] [1,2] _ ((hI5.below hb').below bl) ((ints_lit w' [1,2]).below (Below.refl _ _).drew) (by decide) (by decide)).mono fun e w'' h=>⟨h.1,bel hb' (bel bl h.2)⟩
 have L3:∀ w':World,Below w10.heap.size w10 w'→Calls Tryz.prog 28 #[.agg #[.int .i64 2,.slice Ax 2 cx],.slice Sx 2 sx,.slice Bz 3 dz,.slice (some ac) 6 kc] w' fun e w''=>e=.returned (.bool true)∧Below w10.heap.size w10 w'':=fun w' hb' =>
  (refutes32_any ⟨2,Ax,2,cx,K.exL32,Sx,2,sx,[K.exS32 Ex fx,K.exS32 Ex fx],Bz,3,dz,[3,3,3].map K.exQ32⟩ (some ac) 6 kc lc w' ((hE.below hb').case (hQz.below hb') (by decide)) (hTc.below hb') hFc).mono fun e w'' h=>⟨by rw [h.1];dsimp only;rw [hr4],bel hb' h.2⟩
 have L4:∀ (w':World) (sA:Option Addr),sA=some ac3→Below w10.heap.size w10 w'→Calls Tryz.prog 28 #[.agg #[.int .i64 2,.slice Ax 2 cx],.slice Sx 2 sx,.slice Bz 3 dz,.slice sA 5 (kc - 1)] w' fun e w''=>e=.returned (.bool false)∧Below w10.heap.size w10 w'':=fun w' sA hsA hb'=>by
  subst hsA
  exact (refutes32_any ⟨2,Ax,2,cx,K.exL32,Sx,2,sx,[K.exS32 Ex fx,K.exS32 Ex fx],Bz,3,dz,[3,3,3].map K.exQ32⟩ (some ac3) 5 (kc - 1) (lc.drop 1) w' ((hE.below hb').case (hQz.below hb') (by decide)) (hTd.below hb') ⟨by decide,fun y hy=>hFc.2 y (List.mem_of_mem_drop hy)⟩).mono fun e w'' h=>⟨by rw [h.1];dsimp only;rw [List.map_drop,hr2],bel hb' h.2⟩
 have L5:∀ w':World,Below w10.heap.size w10 w'→Calls Tryz.prog 26 #[.agg #[.int .i64 2,.slice Ax 2 cx],.slice Sx 2 sx,.slice By 3 dy,.slice (some ab) 2 kb] w' fun e w''=>e=.returned (.int .i64 0)∧Below w10.heap.size w10 w'':=fun w' hb' =>
  (checks32_any ⟨2,Ax,2,cx,K.exL32,Sx,2,sx,[K.exS32 Ex fx,K.exS32 Ex fx],By,3,dy,[3,3,2].map K.exQ32⟩ (some ab) 2 kb lb w' ((hE.below hb').case (hQy.below hb') (by decide)) (by rw [←hPb];exact hTb.below hb') (fewT_of hTb (by rw [hlb,←List.length_map (f:=TV.pr),hlb];exact ⟨by decide,fun t ht=>(by simp only [List.mem_cons,List.not_mem_nil,or_false] at ht;rcases ht with rfl | rfl <;> exact ⟨by decide,by decide⟩)⟩))).mono fun e w'' h=>⟨by rw [h.1];dsimp only;rw [hlb,K.x32_7],bel hb' h.2⟩
 have hal:∀ (w':World) (o:Obj),Below w10.heap.size w10 w'→Below w10.heap.size w10 (w'.alloc o):=fun w' o h=>bel h ((Below.refl _ _).alloc (Nat.le_refl _) o)
 have hdr:∀ w':World,Below w10.heap.size w10 w'→Below w10.heap.size w10 w'.drew:=fun w' h=>h.drew
 have hB0:Below w10.heap.size w10 w10:=Below.refl _ _
 have hmk:∀ w',Below w10.heap.size w10 w'→(fun w':World=>w'.cell? ⟨w0a.heap.size,0,none⟩=some (.int .i64 2)∧w'.cell? ⟨w0a.heap.size,1,none⟩=some (.slice Ax 2 cx)∧w'.cell? ac=some (.int .i64 0)∧w'.cell? ⟨ac.block,ac.off + 15,none⟩=some (.int .i64 1)∧w'.cell? ⟨ac.block,ac.off + 3 + 1,none⟩=some (.slice z1.V 2 z1.vc)∧w'.cell? ⟨ac.block,ac.off + 15 + 1,none⟩=some (.slice z5.V 2 z5.vc)) w':=fun w' h=>by
  have mv:∀ {p:Addr} {v:Value},w10.cell? p=some v→w'.cell? p=some v:=fun g=>(h.cell (cell_lt g)).trans g
  exact ⟨mv p0,mv p1,mv c0,mv cc5,mv cc1,mv cc6⟩
 have HBB:=Lib.hid hb
 clear hE hQx hQy hQz hTb hTc hTd hFc hr2 hr4 hr5 hlb hI1 hI5 hP hb hPb hPc
 go_wp2_with fail
 go_region_held3 (fun w':World=>w'.cell? ⟨w0a.heap.size,0,none⟩=some (.int .i64 2)∧w'.cell? ⟨w0a.heap.size,1,none⟩=some (.slice Ax 2 cx)∧w'.cell? ac=some (.int .i64 0)∧w'.cell? ⟨ac.block,ac.off + 15,none⟩=some (.int .i64 1)∧w'.cell? ⟨ac.block,ac.off + 3 + 1,none⟩=some (.slice z1.V 2 z1.vc)∧w'.cell? ⟨ac.block,ac.off + 15 + 1,none⟩=some (.slice z5.V 2 z5.vc))
  ((refine hmk _ ?_;repeat (first | with_reducible assumption | with_reducible refine hal _ _ ?_ | with_reducible refine hdr _ ?_ | fail)))
  (first | (go_at_call_of 50 (BV.V z1);refine L1.mono ?_;rintro e w11 ⟨rfl,hB11⟩) | (go_at_call_of 50 (BV.V z5);with_reducible refine (L2 _ hB11).mono ?_;rintro e w12 ⟨rfl,hB12⟩) | (go_at_call_of 50 (BV.V z5);with_reducible refine (M2 _ hB11).mono ?_;rintro e w12 ⟨rfl,hB12⟩) | (go_at_call_of 28 kc;with_reducible refine (L3 _ ?_).mono ?_;(first | with_reducible exact hB12 | with_reducible exact hdr _ hB12);rintro e w13 ⟨rfl,hB13⟩) | (go_at_call 28;with_reducible refine (L4 _ _ ?_ ?_).mono ?_;exact congrArg some hac3.symm;(first | with_reducible exact hB13 | with_reducible exact hdr _ hB13);rintro e w14 ⟨rfl,hB14⟩) | (go_at_call 26;refine (L5 _ ?_).mono ?_;(first | with_reducible exact hB14 | with_reducible exact hdr _ hB14);rintro e w15 ⟨rfl,hB15⟩) | fail)
 all_goals go_wp2_with fail
 all_goals go_ret
 all_goals (first | exact ⟨rfl,bel HBB.out hB15⟩ | exact ⟨rfl,bel HBB.out (hdr _ hB15)⟩)
theorem plan_fewT {nd:Int} {l:List Ro} {ss:List S} {r:List Q} {w:World} {A:Option Addr} {n:Nat} {ts:List TV} (h:Tours w A n ts) (hp:ts.map TV.pr=(K.plan nd l ss r).1.map fun t=>((t.1:Int),t.2)):FewT n ts:=by
 by_cases h0:(K.plan nd l ss r).2=0
 ·have hfew:=K.checks_few (K.plan_checks h0)
  rw [←hp] at hfew
  exact fewT_of h ⟨by have:=hfew.1;rwa [List.length_map] at this,hfew.2⟩
 ·have he:(K.plan nd l ss r).1=[]:=by
   by_cases h1:K.pcheck nd l ss r=0
   ·rcases K.plan_cases h1 with ⟨h2,-⟩ | ⟨d,-,h2⟩
    ·rw [h2]
    ·rw [h2] at h0;exact absurd rfl h0
   ·rw [K.plan_err h1]
  rw [he] at hp
  have hn:ts=[]:=List.map_eq_nil_iff.1 hp
  have hz:=h.1.1
  rw [hn] at hz ⊢
  exact ⟨by rw [hz];decide,fun y hy=>(by cases hy)⟩
set_option maxRecDepth 100000 in
set_option maxHeartbeats 16000000 in
theorem planTells_any (x:Cs) (TA:Option Addr) (tn tc:Nat) (ts:List TV) (BA:Option Addr) (bn bc:Nat) (bl:List BV) (w:World) (hN:Roads w x.A x.n x.l) (hS:Shifts w x.SA x.sn x.ss) (hQ:Reqs w x.B x.m x.r) (hT:Tours w TA tn ts) (hB:Blks w BA bn bl) (htc:∀ q ∈ ts,q.n≤q.c∧q.n'≤q.c') (hbc:∀ q ∈ bl,q.vn≤q.vc) :
  Calls Tryz.prog 3 #[.agg #[.int .i64 x.nd,.slice x.A x.n x.c],.slice x.SA x.sn x.sc,.slice x.B x.m x.d,.slice TA tn tc,.slice BA bn bc] w fun e w'=>e=.returned (.bool true)∧Below w.heap.size w w':=by
 obtain ⟨w1,hw1⟩:∃ w1:World,w1=w.alloc (.cells #[.int .i64 x.nd,.slice x.A x.n x.c] 24):=⟨_,rfl⟩
 obtain ⟨G0,hG0⟩:∃ G0,G0=w.heap.size:=⟨_,rfl⟩
 have hP:Net w1 G0 x.nd x.A x.n x.c:=by rw [hw1,hG0];exact Net.new w x.nd x.A x.n x.c
 have hb:Below w.heap.size w w1:=by rw [hw1];exact (Below.refl _ _).alloc (Nat.le_refl _) _
 go_enter Tryz.func3,Tryz.ntmps3
 go_wp2_with fail
 rw [←hw1,←hG0]
 clear hw1 hG0
 refine (small_any _).mono ?_
 rintro e w2 ⟨rfl,b2⟩
 have hP:=hP.below b2
 have hb:=bel hb b2
 clear b2
 have p0:=hP.c0
 have p1:=hP.c1
 go_wp2_with fail
 refine (few9_any x _ (hS.below hb) (hQ.below hb)).mono ?_
 rintro e w3 ⟨rfl,b3⟩
 clear p0 p1
 have hP:=hP.below b3
 have hb:=bel hb b3
 clear b3
 have p0:=hP.c0
 have p1:=hP.c1
 cases hf:K.few32 x
 ·clear hf
  go_wp2_with fail
  go_ret
  exact ⟨rfl,hb⟩
 have hx:CsAt w x:=K.few32_at hf hN hS hQ
 obtain ⟨-,-,-,-,-,-,hm4⟩:=K.few32_parts hf hQ.1
 have HF:=Lib.hid (show K.pcheck x.nd x.l x.ss x.r=0→x.m≤4 from fun h=>by
  have h9:=(K.pcheck_ok h).2.2.2.2
  have:=hQ.1
  omega)
 clear hf hm4
 go_wp2_with fail
 refine (fewTours_any TA tn tc ts _ (hT.below hb)).mono ?_
 rintro e w4 ⟨⟨z,rfl,hz⟩,b4⟩
 clear p0 p1
 have hP:=hP.below b4
 have hb:=bel hb b4
 clear b4
 have p0:=hP.c0
 have p1:=hP.c1
 cases z
 ·clear hz
  go_wp2_with fail
  go_ret
  exact ⟨rfl,hb⟩
 have hFT:FewT tn ts:=by
  obtain ⟨h1,h2⟩:=hz rfl
  exact ⟨by omega,fun y hy=>by have:=h2 y hy;omega⟩
 clear hz
 go_wp2_with fail
 refine (fewBlocks_any BA bn bc bl _ (hB.below hb)).mono ?_
 rintro e w5 ⟨⟨z,rfl,hz⟩,b5⟩
 clear p0 p1
 have hP:=hP.below b5
 have hb:=bel hb b5
 clear b5
 have p0:=hP.c0
 have p1:=hP.c1
 cases z
 ·clear hz
  go_wp2_with fail
  go_ret
  exact ⟨rfl,hb⟩
 have hFB:FewB bn bl:=by
  obtain ⟨h1,h2⟩:=hz rfl
  exact ⟨by omega,fun y hy=>by have:=h2 y hy;have:=hbc y hy;omega⟩
 clear hz
 obtain ⟨PP,hPP⟩:∃ PP,PP=K.plan x.nd x.l x.ss x.r:=⟨_,rfl⟩
 obtain ⟨RR,hRR⟩:∃ RR,RR=(K.refute x.nd x.l x.ss x.r).1.map fun b=>((b.1:Int),b.2):=⟨_,rfl⟩
 obtain ⟨re,hre⟩:∃ re,re=(K.refute x.nd x.l x.ss x.r).2:=⟨_,rfl⟩
 obtain ⟨ck,hck⟩:∃ ck,ck=K.checks x.nd x.l x.ss x.r (ts.map TV.pr):=⟨_,rfl⟩
 obtain ⟨rf,hrf⟩:∃ rf,rf=K.refutes x.nd x.l x.ss x.r (bl.map BV.pr):=⟨_,rfl⟩
 have CP:=plan32X x w5 (hx.below hb)
 rw [←hPP] at CP
 go_wp2_with fail
 refine CP.mono ?_
 rintro e w6 ⟨⟨PA,pn,pc,pl,rfl,hPT,-,hpl,-,-⟩,b6⟩
 have hPF:FewT pn pl:=plan_fewT (nd:=x.nd) (l:=x.l) (ss:=x.ss) (r:=x.r) hPT (by rw [hpl,hPP])
 have HPL:=Lib.hid hpl
 clear CP p0 p1 hpl
 have hP:=hP.below b6
 have hb:=bel hb b6
 have p0:=hP.c0
 have p1:=hP.c1
 have CP:=rplan21_any x w6 (hx.below hb) HF.out
 rw [←hPP] at CP
 have HPP:=Lib.hid hPP
 clear hPP
 go_wp2_with fail
 refine CP.mono ?_
 rintro e w7 ⟨⟨QA,qn,qc,ql,rfl,hQT,hql,-,-⟩,b7⟩
 have hQF:FewT qn ql:=plan_fewT (nd:=x.nd) (l:=x.l) (ss:=x.ss) (r:=x.r) hQT (by rw [hql,HPP.out])
 have HEQ:=Lib.hid (show pl.map TV.pr=ql.map TV.pr by rw [HPL.out,hql])
 obtain ⟨pe,hpe⟩:∃ pe,pe=PP.2:=⟨_,rfl⟩
 rw [←hpe]
 have hPT7:=hPT.below b7
 clear CP p0 p1 hql hpe hPT
 have hP:=hP.below b7
 have hb:=bel hb b7
 have p0:=hP.c0
 have p1:=hP.c1
 have CR:=refute32X x w7 (hx.below hb)
 rw [←hRR,←hre] at CR
 go_wp2_with fail
 refine CR.mono ?_
 rintro e w8 ⟨⟨RA,rn,rc,rl,rfl,hRB,-,hRF,hrl,-,-⟩,b8⟩
 have HRL:=Lib.hid hrl
 have hPT8:=hPT7.below b8
 have hQT8:=hQT.below b8
 clear CR p0 p1 hrl hPT7 hQT
 have hP:=hP.below b8
 have hb:=bel hb b8
 have p0:=hP.c0
 have p1:=hP.c1
 have CR:=rrefute23_any x w8 (hx.below hb) HF.out
 rw [←hRR,←hre] at CR
 clear hRR hre
 go_wp2_with fail
 refine CR.mono ?_
 rintro e w9 ⟨⟨SA,sn,sc,sl,rfl,hSB,hsl,-,-,-⟩,b9⟩
 have HRS:=Lib.hid (show rl.map BV.pr=sl.map BV.pr by rw [HRL.out,hsl])
 have hPT9:=hPT8.below b9
 have hQT9:=hQT8.below b9
 have hRB9:=hRB.below b9
 clear CR p0 p1 hsl hPT8 hQT8 hRB
 have hP:=hP.below b9
 have hb:=bel hb b9
 have e1:(pe == pe)=true:=by simp
 have e2:(re == re)=true:=by simp
 have CT:Calls Tryz.prog 24 #[.slice PA pn pc,.slice QA qn qc] w9 fun e w'=>e=.returned (.bool true)∧Below w9.heap.size w9 w':=by
  refine (sameTours_any PA QA pn qn pc qc pl ql w9 hPT9 hQT9 hPF.1 hQF.1 (fun y hy=>by have:=hPF.2 y hy;omega) (fun y hy=>by have:=hQF.2 y hy;omega)).mono ?_
  rintro e w' ⟨⟨z,rfl,hz⟩,hb'⟩
  exact ⟨by rw [hz.2 HEQ.out],hb'⟩
 go_wp2_with fail
 refine CT.mono ?_
 rintro e w10 ⟨rfl,b10⟩
 have CB:=sameBlks25_yes RA SA rn sn rc sc rl sl w10 (hRB9.below b10) (hSB.below b10) HRS.out hRF.1 (fun y hy=>by have:=hRF.2 y hy;omega)
 clear CT
 go_wp2_with fail
 refine CB.mono ?_
 rintro e w11 ⟨rfl,b11⟩
 have b911:=bel b10 b11
 have hb:=bel hb b911
 have hP:=hP.below b911
 have hx11:=hx.below hb
 have C26:∀ i:Beh w11,Calls Tryz.prog 26 #[.agg #[.int .i64 x.nd,.slice x.A x.n x.c],.slice x.SA x.sn x.sc,.slice x.B x.m x.d,.slice TA tn tc] i.val fun e w'=>e=.returned (.int .i64 ck)∧Below i.val.heap.size i.val w':=fun i=>by
  rw [hck]
  exact checks32_any x TA tn tc ts i.val (hx11.below i.property) ((hT.below hb).below i.property) hFT
 have C27:∀ i:Beh w11,Calls Tryz.prog 27 #[.agg #[.int .i64 x.nd,.slice x.A x.n x.c],.slice x.SA x.sn x.sc,.slice x.B x.m x.d,.slice TA tn tc] i.val fun e w'=>e=.returned (.int .i64 ck)∧Below i.val.heap.size i.val w':=fun i=>by
  rw [hck]
  exact rchecks27_any x TA tn tc ts i.val (hx11.below i.property) ((hT.below hb).below i.property) hFT (fun y hy=>(htc y hy).1)
 have C28:∀ i:Beh w11,Calls Tryz.prog 28 #[.agg #[.int .i64 x.nd,.slice x.A x.n x.c],.slice x.SA x.sn x.sc,.slice x.B x.m x.d,.slice BA bn bc] i.val fun e w'=>e=.returned (.bool rf)∧Below i.val.heap.size i.val w':=fun i=>by
  rw [hrf]
  exact refutes32_any x BA bn bc bl i.val (hx11.below i.property) ((hB.below hb).below i.property) hFB
 have C29:∀ i:Beh w11,Calls Tryz.prog 29 #[.agg #[.int .i64 x.nd,.slice x.A x.n x.c],.slice x.SA x.sn x.sc,.slice x.B x.m x.d,.slice BA bn bc] i.val fun e w'=>e=.returned (.bool rf)∧Below i.val.heap.size i.val w':=fun i=>by
  rw [hrf]
  exact rrefutes29_any x BA bn bc bl i.val (hx11.below i.property) ((hB.below hb).below i.property) hFB
 have q0:=Beh.cell hP.c0
 have q1:=Beh.cell hP.c1
 have e3:(ck == ck)=true:=by simp
 have e4:(rf == rf)=true:=by cases rf <;> rfl
 clear hck hrf CB b10 b11 b911 hRB9 hSB hPT9 hQT9 hPF hQF hx11
 go_upto_region 9 with fail
 refine reg_beh (by kernel_rfl) (by kernel_rfl) ?_
 repeat (go_big_quiet_step ((first | (go_at_call 26;exact Beh.calls (C26 _)) | (go_at_call 27;exact Beh.calls (C27 _)) | (go_at_call 28;exact Beh.calls (C28 _)) | (go_at_call 29;exact Beh.calls (C29 _)))))
 refine wpQuiet_nil ?_
 rintro w12 ⟨⟨w12,b12⟩,rfl⟩
 go_wp2_with fail
 go_ret
 exact ⟨by simp,bel hb b12⟩
end Go.Proofs.YtippdjmpkafifaaGreat
namespace Go.Proofs.YtippdjmpkafifaaGreat
open Go.ChangeShapes Go.WideShapes Go.Deep Go.RowKit
section
variable {H : Type} {enc : TypeId × Value → H} {P : Program} {w : World} {base : Nat} {spare : Nat → Bool} {held : Bool}
set_option maxRecDepth 100000 in
theorem open_slice_fields {t e:TypeId} {fs:Array Field} {fuel:Nat} {cs:List Value} {x:DataW H × List MemPlace} (ht:P.underlying t=some (.slice e)) (he:P.underlying e=some (.struct fs))
  (hone:oneCellFields P fs=true) (hC:P.cellsOf e=fs.size) (h:DataW.trod enc P w base spare held fuel t cs=some x) :
  (cs=[.slice none 0 0]∧x=(.nil,[])) ∨
  ∃ (a:Addr) (len cap m:Nat) (D:Nat→DataW H) (Pl:Nat→List MemPlace),cs=[.slice (some a) len cap]∧base≤a.block∧len≤cap∧cap≤maxLen∧m=(if spare a.block then cap else len) ∧
   x=(.slice ((List.range len).map D) ((List.range (m - len)).map fun j=>D (len + j)),MemPlace.row a (m * fs.size) ++ (List.range m).flatMap Pl) ∧
   ∀ i,i < m→∃ (ys:List (DataW H × List MemPlace)) (n:Nat),D i=.agg (ys.map (·.1))∧Pl i=ys.flatMap (·.2)∧ys.length=fs.size ∧
    ∀ (j:Nat) (f:Field),fs[j]? = some f→∃ (v:Value) (y:DataW H × List MemPlace),w.cell? (a.add (i * fs.size + j))=some v∧ys[j]? = some y∧DataW.trod enc P w base spare held n f.type [v] = some y:=by
 rcases open_slice ht h with h0 | ⟨a,len,cap,m,n,D,Pl,hcs,hb,hl,hm,hmm,hx,hi⟩
 ·exact .inl h0
 ·refine .inr ⟨a,len,cap,m,D,Pl,hcs,hb,hl,hm,hmm,by rw [hC] at hx;exact hx,fun i him=>?_⟩
  obtain ⟨cs',hc,ht'⟩:=hi i him
  rw [hC] at hc
  obtain ⟨ys,n',hn',hy,hlen,hyl,hf⟩:=DataW.trod_struct he ht'
  obtain ⟨_,hcl,hat⟩:=World.cells?_some hc
  simp only [Prod.mk.injEq] at hy
  refine ⟨ys,n',hy.1,hy.2,hyl,fun j f hj=>?_⟩
  obtain ⟨ho,hk⟩:=hone_of hone j f hj
  have hjl:j < fs.size:=(Array.getElem?_eq_some_iff.1 hj).1
  have hcell:=hat j hjl
  have hv:cs'[j]? = some (cs'[j]'(by omega)):=List.getElem?_eq_getElem (by omega)
  have h1:=hf j f hj
  rw [ho,hk] at h1
  have hone':(cs'.drop j).take 1=[cs'[j]'(by omega)]:=by
   rw [List.drop_eq_getElem_cons (by omega)]
   rfl
  rw [hone'] at h1
  have hys:ys[j]? = some (ys[j]'(by omega)):=List.getElem?_eq_getElem (by omega)
  refine ⟨_,_,?_,hys,h1.trans hys⟩
  rw [←Go.Deep.add_add,hcell,hv]
end
section
variable {H : Type} {enc : TypeId × Value → H} {P : Program}
theorem post_of_below {f:Func} {s:ChangeSpec} {apart fresh handsOn again:Bool} {W W':World} {args:Array Value} {v:Value} {ds gs:List (DataW H)} {before pa pv:List MemPlace}
  (hW:DataW.Whole enc P f.params.toList s.vars apart W args.toList ds gs before)
  (hres:∀ (b:Nat) (sp:Nat→Bool) (hd:Bool),DataW.TrodAll enc P W' b sp hd f.resultTypes.toList (v.resultList f.resultTypes.size) (s.fn H (ds ++ gs)).results [])
  (hargs:∀ sp:Nat→Bool,(∀ p ∈ before,sp p.block=true)→DataW.TrodAll enc P W' 0 sp true f.params.toList args.toList (s.fn H (ds ++ gs)).args pa)
  (hvars:∀ sp:Nat→Bool,(∀ p ∈ before,sp p.block=true)→DataW.TrodVars enc P W' sp s.vars (s.fn H (ds ++ gs)).vars pv)
  (hps:before=pa ++ pv) (hb:Below W.heap.size W W')
  (hok:∀ (j:Nat) (t:TypeId) (r:Value),f.resultTypes[j]? = some t→(v.resultList f.resultTypes.size)[j]? = some r→Value.okWide P W' .any 0 t r) :
  s.post enc P f apart fresh handsOn again W args v W':=by
 have hlt:∀ p ∈ before,p.block < W.heap.size:=fun p hp=>hW.lt p hp
 have hold:∀ p ∈ before,(fun b=>decide (b < W.heap.size)) p.block=true:=fun p hp=>by simpa using hlt p hp
 refine ⟨ds,gs,before,[],pa,pv,hW,hres _ _ _,hargs _ hold,hvars _ hold,World.keptBut_mono (fun p hp=>⟨hp,?_⟩) (hb.frame (· ∈ before)),fun _=>?_⟩
 ·rw [hps,List.mem_append] at hp
  exact Or.inr hp
 ·obtain ⟨_,_,_,_,_,hz,hn⟩:=hW
  refine ⟨hok,_,_,([] ++ pa) ++ pv,⟨[] ++ pa,pv,trodAll_append (hargs _ (fun _ _=>rfl)) (hres _ _ _),hvars _ (fun _ _=>rfl),rfl,?_,?_⟩,?_⟩
  ·intro b off hp
   have hin:MemPlace.cell b off ∈ before:=by rw [hps];simpa using hp
   rw [hb.frozen (hlt _ hin)]
   exact hz b off hin
  ·intro ha
   have:=hn ha
   rw [hps] at this
   simpa using this
  ·intro p hp _
   rw [hps]
   simpa using hp
end
theorem list_of {α:Type} {n:Nat} {Q:Nat→α→Prop} (h:∀ i,i < n→∃ x,Q i x):∃ l:List α,l.length=n∧∀ i x,l[i]? = some x→Q i x:=by
 induction n with
 | zero=>exact ⟨[],rfl,fun i x hx=>by simp at hx⟩
 | succ n ih =>
  obtain ⟨l,hl,hq⟩:=ih (fun i hi=>h i (by omega))
  obtain ⟨x,hx⟩:=h n (by omega)
  refine ⟨l ++ [x],by simp [hl],fun i y hy=>?_⟩
  rw [List.getElem?_append] at hy
  split at hy
  ·exact hq i y hy
  ·rename_i hlt
   have e:i=n:=by
    by_cases e:i - l.length=0
    ·omega
    ·rw [List.getElem?_eq_none (by simp;omega)] at hy;cases hy
   subst e
   rw [←hl,Nat.sub_self] at hy
   simp at hy
   subst hy;exact hx
theorem winCells_cell {w:World} {ad:Addr} {l:List (Int × Int)} (h:∀ i p,l[i]? = some p→w.cell? (ad.add (i * 2))=some (.int .i64 p.1)∧w.cell? (ad.add (i * 2 + 1))=some (.int .i64 p.2)) :
  ∀ j u,(winCells l)[j]? = some u→w.cell? (ad.add j)=some u:=by
 intro j u hu
 have hj:j < (winCells l).length:=(List.getElem?_eq_some_iff.1 hu).1
 rw [winCells_len] at hj
 have hp:l[j / 2]? = some (l[j / 2]'(by omega)):=List.getElem?_eq_getElem (by omega)
 obtain ⟨g1,g2⟩:=winCells_get l _ _ hp
 obtain ⟨k1,k2⟩:=h _ _ hp
 by_cases e:j % 2=0
 ·have:j=j / 2 * 2:=by omega
  rw [this] at hu ⊢
  rw [g1] at hu
  injection hu with hu
  rw [←hu];exact k1
 ·have:j=j / 2 * 2 + 1:=by omega
  rw [this] at hu ⊢
  rw [g2] at hu
  injection hu with hu
  rw [←hu];exact k2
section
variable {H : Type} {enc : TypeId × Value → H} {P : Program}
theorem trodAll_stays (hl:laidOutB P=true) {W W':World} {sp:Nat→Bool} (hb:Below W.heap.size W W') :
  ∀ (ts:List TypeId) (vs:List Value) (ds:List (DataW H)) (ps:List MemPlace),(∀ t ∈ ts,P.readableRec t=true∧t < P.types.size)→DataW.TrodAll enc P W 0 (fun _=>true) true ts vs ds ps →
   (∀ x ∈ ps,x.block < W.heap.size)→(∀ x ∈ ps,sp x.block=true)→DataW.TrodAll enc P W' 0 sp true ts vs ds ps:=by
 intro ts
 induction ts with
 | nil=>intro vs ds ps _ h _ _;cases vs <;> cases ds <;> first | exact h | exact h.elim
 | cons t ts ih =>
  intro vs ds ps hts h hlt hsp
  match vs,ds,h with
  | v :: vs,d :: ds,⟨p,q,h1,h2,e⟩ =>
   subst e
   have ht:=hts t (List.mem_cons_self ..)
   exact ⟨p,q,WideElems.Trod_stays hl ht.1 ht.2 h1 (fun x hx=>hb.same (hlt x (List.mem_append_left _ hx))) (fun x hx=>hsp x (List.mem_append_left _ hx)),
    ih vs ds q (fun t' h'=>hts t' (List.mem_cons_of_mem _ h')) h2 (fun x hx=>hlt x (List.mem_append_right _ hx)) (fun x hx=>hsp x (List.mem_append_right _ hx)),rfl⟩
end
set_option maxRecDepth 100000 in
theorem Tryz.laid:laidOutB Tryz.prog=true:=by kernel_rfl
section
variable {H : Type} {enc : TypeId × Value → H}
set_option maxRecDepth 100000 in
theorem post_true {f:Func} {s:ChangeSpec} {W W':World} {args:Array Value} {ds:List (DataW H)} {before:List MemPlace} (hts:∀ t ∈ f.params.toList,Tryz.prog.readableRec t=true∧t < Tryz.prog.types.size)
  (hv:s.vars=[]) (hres:f.resultTypes=#[4]) (hW:DataW.Whole enc Tryz.prog f.params.toList s.vars false W args.toList ds [] before)
  (hspec:s.fn H (ds ++ [])={ results:=[.lit (.bool true)],args:=ds }) (hb:Below W.heap.size W W'):s.post enc Tryz.prog f false true false false W args (.bool true) W':=by
 have hW':=hW
 obtain ⟨p,q,hA,hV,rfl,hfz,hnd⟩:=hW
 rw [hv] at hV
 obtain ⟨_,rfl⟩:=trodVars_none hV
 have hlt:∀ x ∈ p ++ [],x.block < W.heap.size:=fun x hx=>hW'.lt x hx
 rw [List.append_nil] at hlt
 refine post_of_below (pa:=p) (pv:=[]) hW' ?_ ?_ ?_ rfl hb ?_
 ·intro b sp hd
  rw [hspec,hres]
  exact trodAll_cons_mk (shut_bool Tryz.underlying4 _) trodAll_mk0
 ·intro sp hsp
  rw [hspec]
  exact trodAll_stays Tryz.laid hb _ _ _ _ hts hA hlt (fun x hx=>hsp x (by simpa using hx))
 ·intro sp _
  rw [hspec,hv]
  rfl
 ·exact ok_one hres rfl (okWide_bool_mk Tryz.underlying4 _)
end
end Go.Proofs.YtippdjmpkafifaaGreat
namespace Go.Proofs.YtippdjmpkafifaaGreat
open Go.ChangeShapes Go.WideShapes Go.Deep Go.RowKit
section
variable {H : Type} {enc : TypeId × Value → H} {W : World} {base b0 : Nat} {spare : Nat → Bool} {held : Bool} {r : Reach}
set_option maxRecDepth 100000 in
theorem wins_of_trod {fuel:Nat} {v:Value} {x:DataW H × List MemPlace} (hf:DataW.trod enc Tryz.prog W b0 spare held fuel 45 [v] = some x):∃ A n c l,v=.slice A n c∧Wins W A n l:=by
 rcases open_slice_fields Tryz.underlying45 Tryz.underlying158 (by kernel_rfl) (by kernel_rfl) hf with ⟨hcs,_⟩ | ⟨a,len,cap,m,D,Pl,hcs,_,hlc,_,hm,_,hcell⟩
 ·simp at hcs
  subst hcs
  exact ⟨none,0,0,[],rfl,rfl,rfl,fun h0=>absurd h0 (by omega)⟩
 ·simp at hcs
  subst hcs
  have hlm:len≤m:=by rw [hm];split <;> omega
  have key:∀ i,i < len→∃ p:Int × Int,W.cell? (a.add (i * 2))=some (.int .i64 p.1)∧W.cell? (a.add (i * 2 + 1))=some (.int .i64 p.2):=by
   intro i hi
   obtain ⟨ys,n,_,_,_,hfld⟩:=hcell i (by omega)
   obtain ⟨v0,y0,c0,_,t0⟩:=hfld 0 _ rfl
   obtain ⟨v1,y1,c1,_,t1⟩:=hfld 1 _ rfl
   obtain ⟨n0,e0,_⟩:=DataW.trod_int Tryz.underlying3 t0
   obtain ⟨n1,e1,_⟩:=DataW.trod_int Tryz.underlying3 t1
   simp at e0 e1
   subst e0 e1
   exact ⟨(n0,n1),c0,c1⟩
  obtain ⟨l,hl,hq⟩:=list_of key
  exact ⟨_,_,_,l,rfl,hl.symm,by rw [winCells_len,hl],fun _=>⟨a,rfl,winCells_cell hq⟩⟩
theorem reqCells_cell {w:World} {ad:Addr} {l:List Q} (h:∀ i q,l[i]? = some q→∀ j u,q.cells[j]? = some u→w.cell? (ad.add (i * 7 + j))=some u) :
  ∀ j u,(reqCells l)[j]? = some u→w.cell? (ad.add j)=some u:=by
 intro j u hu
 have hj:j < (reqCells l).length:=(List.getElem?_eq_some_iff.1 hu).1
 rw [reqCells_len] at hj
 have hp:l[j / 7]? = some (l[j / 7]'(by omega)):=List.getElem?_eq_getElem (by omega)
 have hjj:j=j / 7 * 7 + j % 7:=by omega
 have g:=reqCells_get l _ _ hp (j % 7) (by omega)
 rw [←hjj,hu] at g
 have:=h _ _ hp (j % 7) u g.symm
 rwa [←hjj] at this
set_option maxRecDepth 100000 in
theorem reqs_of_trod {fuel:Nat} {v:Value} {x:DataW H × List MemPlace} (hf:DataW.trod enc Tryz.prog W b0 spare held fuel 26 [v] = some x):∃ A n c l,v=.slice A n c∧Reqs W A n l:=by
 rcases open_slice_fields Tryz.underlying26 Tryz.underlying47 (by kernel_rfl) (by kernel_rfl) hf with ⟨hcs,_⟩ | ⟨a,len,cap,m,D,Pl,hcs,_,hlc,_,hm,_,hcell⟩
 ·simp at hcs
  subst hcs
  exact ⟨none,0,0,[],rfl,rfl,⟨rfl,fun h0=>absurd h0 (by omega)⟩,fun q hq=>by simp at hq⟩
 ·simp at hcs
  subst hcs
  have hlm:len≤m:=by rw [hm];split <;> omega
  have key:∀ i,i < len→∃ q:Q,Wins W q.A q.n q.l∧∀ j u,q.cells[j]? = some u→W.cell? (a.add (i * 7 + j))=some u:=by
   intro i hi
   obtain ⟨ys,n,_,_,_,hfld⟩:=hcell i (by omega)
   obtain ⟨v0,y0,c0,_,t0⟩:=hfld 0 _ rfl
   obtain ⟨v1,y1,c1,_,t1⟩:=hfld 1 _ rfl
   obtain ⟨v2,y2,c2,_,t2⟩:=hfld 2 _ rfl
   obtain ⟨v3,y3,c3,_,t3⟩:=hfld 3 _ rfl
   obtain ⟨v4,y4,c4,_,t4⟩:=hfld 4 _ rfl
   obtain ⟨v5,y5,c5,_,t5⟩:=hfld 5 _ rfl
   obtain ⟨v6,y6,c6,_,t6⟩:=hfld 6 _ rfl
   obtain ⟨n0,e0,_⟩:=DataW.trod_int Tryz.underlying3 t0
   obtain ⟨n1,e1,_⟩:=DataW.trod_int Tryz.underlying3 t1
   obtain ⟨n2,e2,_⟩:=DataW.trod_int Tryz.underlying3 t2
   obtain ⟨n3,e3,_⟩:=DataW.trod_int Tryz.underlying3 t3
   obtain ⟨n4,e4,_⟩:=DataW.trod_int Tryz.underlying3 t4
   obtain ⟨n5,e5,_⟩:=DataW.trod_int Tryz.underlying3 t5
   obtain ⟨A,nn,cc,l,rfl,hw⟩:=wins_of_trod t6
   simp at e0 e1 e2 e3 e4 e5
   subst e0 e1 e2 e3 e4 e5
   refine ⟨⟨n0,n1,n2,n3,n4,n5,A,nn,cc,l⟩,hw,?_⟩
   intro j u hu
   rcases j with _ | _ | _ | _ | _ | _ | _ | j <;> simp [Q.cells] at hu <;> subst hu <;> assumption
  obtain ⟨l,hl,hq⟩:=list_of key
  refine ⟨_,_,_,l,rfl,hl.symm,⟨by rw [reqCells_len,hl],fun _=>⟨a,rfl,reqCells_cell fun i q hi=>(hq i q hi).2⟩⟩,?_⟩
  intro q hq'
  obtain ⟨i,hi⟩:=List.mem_iff_getElem?.1 hq'
  exact (hq i q hi).1
set_option maxRecDepth 100000 in
theorem open_reqs {v:Value} {d:DataW H} {ps:List MemPlace} (hval:Value.okWide Tryz.prog W r base 26 v) (h:DataW.Trod enc Tryz.prog W b0 spare held 26 v d ps):∃ A n c l,v=.slice A n c∧Reqs W A n l:=by
 obtain ⟨a0,len,cap,rfl⟩:=okWide_slice Tryz.underlying26 hval
 obtain ⟨fuel,hf⟩:=h
 exact reqs_of_trod hf
end
end Go.Proofs.YtippdjmpkafifaaGreat
namespace Go.Proofs.YtippdjmpkafifaaGreat
open Go.ChangeShapes Go.WideShapes Go.Deep Go.RowKit
section
variable {H : Type} {enc : TypeId × Value → H} {W : World} {base b0 : Nat} {spare : Nat → Bool} {held : Bool} {r : Reach}
set_option maxRecDepth 100000 in
theorem cints_of_trod {fuel:Nat} {v:Value} {x:DataW H × List MemPlace} (hf:DataW.trod enc Tryz.prog W b0 spare held fuel 48 [v] = some x):∃ A n c l,v=.slice A n c∧Ints W A n l∧n≤c:=by
 rcases open_slice Tryz.underlying48 hf with ⟨hcs,_⟩ | ⟨a,len,cap,m,n,D,Pl,hcs,_,hlc,_,hm,_,hcell⟩
 ·simp at hcs
  subst hcs
  exact ⟨none,0,0,[],rfl,⟨rfl,rfl,fun h0=>absurd h0 (by omega)⟩,Nat.le_refl _⟩
 ·simp at hcs
  subst hcs
  have hC:Tryz.prog.cellsOf 3=1:=by kernel_rfl
  have hlm:len≤m:=by rw [hm];split <;> omega
  have key:∀ i,i < len→∃ p:Int,W.cell? (a.add i)=some (.int .i64 p):=by
   intro i hi
   obtain ⟨cs',hc,ht'⟩:=hcell i (by omega)
   rw [hC,Nat.mul_one] at hc
   obtain ⟨_,_,hat⟩:=World.cells?_some hc
   obtain ⟨n0,e0,_⟩:=DataW.trod_int Tryz.underlying3 ht'
   subst e0
   have h0:=hat 0 (by omega)
   rw [Go.Deep.add_add,Nat.add_zero] at h0
   exact ⟨n0,h0⟩
  obtain ⟨l,hl,hq⟩:=list_of key
  refine ⟨_,_,_,l,rfl,⟨hl.symm,by simp [intCells,hl],fun _=>⟨a,rfl,?_⟩⟩,hlc⟩
  intro j u hu
  rw [intCells,List.getElem?_map] at hu
  obtain ⟨y,hy,rfl⟩:=Option.map_eq_some_iff.1 hu
  exact hq j y hy
theorem roads_cell {w:World} {ad:Addr} {l:List Ro} (h:∀ i q,l[i]? = some q→∀ j u,(roadCells q)[j]? = some u→w.cell? (ad.add (i * 4 + j))=some u) :
  ∀ j u,(l.flatMap roadCells)[j]? = some u→w.cell? (ad.add j)=some u:=by
 intro j u hu
 have hj:j < (l.flatMap roadCells).length:=(List.getElem?_eq_some_iff.1 hu).1
 rw [flat_len roadCells 4 (fun _=>rfl)] at hj
 have hp:l[j / 4]? = some (l[j / 4]'(by omega)):=List.getElem?_eq_getElem (by omega)
 have hjj:j=j / 4 * 4 + j % 4:=by omega
 have g:=flat_get roadCells 4 (fun _=>rfl) l _ _ hp (j % 4) (by omega)
 rw [←hjj,hu] at g
 have:=h _ _ hp (j % 4) u g.symm
 rwa [←hjj] at this
set_option maxRecDepth 100000 in
theorem roads_of_trod {fuel:Nat} {v:Value} {x:DataW H × List MemPlace} (hf:DataW.trod enc Tryz.prog W b0 spare held fuel 22 [v] = some x):∃ A n c l,v=.slice A n c∧Roads W A n l:=by
 rcases open_slice_fields Tryz.underlying22 Tryz.underlying134 (by kernel_rfl) (by kernel_rfl) hf with ⟨hcs,_⟩ | ⟨a,len,cap,m,D,Pl,hcs,_,hlc,_,hm,_,hcell⟩
 ·simp at hcs
  subst hcs
  exact ⟨none,0,0,[],rfl,rfl,rfl,fun h0=>absurd h0 (by omega)⟩
 ·simp at hcs
  subst hcs
  have hlm:len≤m:=by rw [hm];split <;> omega
  have key:∀ i,i < len→∃ q:Ro,∀ j u,(roadCells q)[j]? = some u→W.cell? (a.add (i * 4 + j))=some u:=by
   intro i hi
   obtain ⟨ys,n,_,_,_,hfld⟩:=hcell i (by omega)
   obtain ⟨v0,y0,c0,_,t0⟩:=hfld 0 _ rfl
   obtain ⟨v1,y1,c1,_,t1⟩:=hfld 1 _ rfl
   obtain ⟨v2,y2,c2,_,t2⟩:=hfld 2 _ rfl
   obtain ⟨v3,y3,c3,_,t3⟩:=hfld 3 _ rfl
   obtain ⟨n0,e0,_⟩:=DataW.trod_int Tryz.underlying3 t0
   obtain ⟨n1,e1,_⟩:=DataW.trod_int Tryz.underlying3 t1
   obtain ⟨n2,e2,_⟩:=DataW.trod_int Tryz.underlying3 t2
   obtain ⟨n3,e3,_⟩:=DataW.trod_int Tryz.underlying3 t3
   simp at e0 e1 e2 e3
   subst e0 e1 e2 e3
   refine ⟨⟨n0,n1,n2,n3⟩,?_⟩
   intro j u hu
   rcases j with _ | _ | _ | _ | j <;> simp [roadCells] at hu <;> subst hu <;> assumption
  obtain ⟨l,hl,hq⟩:=list_of key
  exact ⟨_,_,_,l,rfl,hl.symm,by rw [flat_len roadCells 4 (fun _=>rfl),hl],fun _=>⟨a,rfl,roads_cell fun i q hi=>hq i q hi⟩⟩
set_option maxRecDepth 100000 in
theorem open_net {v:Value} {d:DataW H} {ps:List MemPlace} (hval:Value.okWide Tryz.prog W r base 24 v) (h:DataW.Trod enc Tryz.prog W b0 spare held 24 v d ps):∃ nd A n c l,v=.agg #[.int .i64 nd,.slice A n c]∧Roads W A n l:=by
 obtain ⟨cs,rfl,hsz⟩:=okWide_struct Tryz.underlying24 hval
 obtain ⟨fuel,hf⟩:=h
 obtain ⟨ys,n',_,_,hlen,hyl,hfl⟩:=DataW.trod_struct Tryz.underlying24 hf
 rw [show Tryz.prog.cellsOf 24=2 by kernel_rfl] at hsz
 obtain ⟨v0,v1,rfl⟩:∃ v0 v1,cs=#[v0,v1]:=by
  obtain ⟨l⟩:=cs
  rcases l with _ | ⟨v0,_ | ⟨v1,_ | ⟨v2,l⟩⟩⟩ <;> simp at hsz
  exact ⟨_,_,rfl⟩
 have C3:Tryz.prog.cellsOf 3=1:=by kernel_rfl
 have C22:Tryz.prog.cellsOf 22=1:=by kernel_rfl
 have get:∀ i,i < ys.length→∃ y,ys[i]? = some y:=fun i hi=>⟨_,List.getElem?_eq_getElem hi⟩
 have h2:ys.length=2:=hyl
 have t0:=hfl 0 _ rfl
 have t1:=hfl 1 _ rfl
 obtain ⟨y0,g0⟩:=get 0 (by omega)
 obtain ⟨y1,g1⟩:=get 1 (by omega)
 rw [g0] at t0
 rw [g1] at t1
 simp [C3,C22,Value.cells] at t0 t1
 obtain ⟨n0,e0,_⟩:=DataW.trod_int Tryz.underlying3 t0
 obtain ⟨A,n,c,l,e1,hI⟩:=roads_of_trod t1
 simp at e0 e1
 subst e0 e1
 exact ⟨n0,A,n,c,l,rfl,hI⟩
end
end Go.Proofs.YtippdjmpkafifaaGreat
namespace Go.Proofs.YtippdjmpkafifaaGreat
open Go.ChangeShapes Go.WideShapes Go.Deep Go.RowKit
section
variable {H : Type} {enc : TypeId × Value → H} {W : World} {base b0 : Nat} {spare : Nat → Bool} {held : Bool} {r : Reach}
theorem labs_cell {W:World} {ad:Addr} {l:List Lb} (h:∀ (i:Nat) (q:Lb),l[i]? = some q→∀ (j:Nat) (u:Value),(labCells q)[j]? = some u→W.cell? (ad.add (i * 3 + j))=some u) :
  ∀ j u,(l.flatMap labCells)[j]? = some u→W.cell? (ad.add j)=some u:=by
 intro j u hu
 have hj:j < (l.flatMap labCells).length:=(List.getElem?_eq_some_iff.1 hu).1
 rw [flat_len labCells 3 (fun _=>rfl)] at hj
 have hp:l[j / 3]? = some (l[j / 3]'(by omega)):=List.getElem?_eq_getElem (by omega)
 have hjj:j=j / 3 * 3 + j % 3:=by omega
 have g:=flat_get labCells 3 (fun _=>rfl) l _ _ hp (j % 3) (by omega)
 rw [←hjj,hu] at g
 have:=h _ _ hp (j % 3) u g.symm
 rwa [←hjj] at this
set_option maxRecDepth 100000 in
theorem labs_of_trod {fuel:Nat} {v:Value} {x:DataW H × List MemPlace} (hf:DataW.trod enc Tryz.prog W b0 spare held fuel 88 [v] = some x):∃ A n c l,v=.slice A n c∧Labs W A n l:=by
 rcases open_slice_fields Tryz.underlying88 Tryz.underlying167 (by kernel_rfl) (by kernel_rfl) hf with ⟨hcs,_⟩ | ⟨a,len,cap,m,D,Pl,hcs,_,hlc,_,hm,_,hcell⟩
 ·simp at hcs
  subst hcs
  exact ⟨none,0,0,[],rfl,rfl,rfl,fun h0=>absurd h0 (by omega)⟩
 ·simp at hcs
  subst hcs
  have hlm:len≤m:=by rw [hm];split <;> omega
  have key:∀ i,i < len→∃ q:Lb,∀ j u,(labCells q)[j]? = some u→W.cell? (a.add (i * 3 + j))=some u:=by
   intro i hi
   obtain ⟨ys,n,_,_,_,hfld⟩:=hcell i (by omega)
   obtain ⟨v0,y0,c0,_,t0⟩:=hfld 0 _ rfl
   obtain ⟨v1,y1,c1,_,t1⟩:=hfld 1 _ rfl
   obtain ⟨v2,y2,c2,_,t2⟩:=hfld 2 _ rfl
   obtain ⟨n0,e0,_⟩:=DataW.trod_int Tryz.underlying3 t0
   obtain ⟨n1,e1,_⟩:=DataW.trod_int Tryz.underlying3 t1
   obtain ⟨n2,e2,_⟩:=DataW.trod_int Tryz.underlying3 t2
   simp at e0 e1 e2
   subst e0 e1 e2
   refine ⟨⟨n0,n1,n2⟩,?_⟩
   intro j u hu
   rcases j with _ | _ | _ | j <;> simp [labCells] at hu <;> subst hu <;> assumption
  obtain ⟨l,hl,hq⟩:=list_of key
  exact ⟨_,_,_,l,rfl,hl.symm,by rw [flat_len labCells 3 (fun _=>rfl),hl],fun _=>⟨a,rfl,labs_cell fun i q hi=>hq i q hi⟩⟩
end
end Go.Proofs.YtippdjmpkafifaaGreat
namespace Go.Proofs.YtippdjmpkafifaaGreat
open Go.ChangeShapes Go.WideShapes Go.Deep Go.RowKit
theorem flat_cell {α:Type} (f:α→List Value) (s:Nat) (hs:∀ x,(f x).length=s) (h0:0 < s) {w:World} {ad:Addr} {l:List α} (h:∀ (i:Nat) (q:α),l[i]? = some q→∀ (j:Nat) (u:Value),(f q)[j]? = some u→w.cell? (ad.add (i * s + j))=some u) :
  ∀ j u,(l.flatMap f)[j]? = some u→w.cell? (ad.add j)=some u:=by
 intro j u hu
 have hj:j < (l.flatMap f).length:=(List.getElem?_eq_some_iff.1 hu).1
 rw [flat_len f s hs] at hj
 have hd:j / s < l.length:=Nat.div_lt_of_lt_mul (by rw [Nat.mul_comm];exact hj)
 have hp:l[j / s]? = some (l[j / s]'hd):=List.getElem?_eq_getElem hd
 have hm:j % s < s:=Nat.mod_lt _ h0
 have hjj:j=j / s * s + j % s:=by rw [Nat.mul_comm];exact (Nat.div_add_mod j s).symm
 have g:=flat_get f s hs l _ _ hp (j % s) hm
 rw [←hjj,hu] at g
 have:=h _ _ hp (j % s) u g.symm
 rwa [←hjj] at this
section
variable {H : Type} {enc : TypeId × Value → H} {W : World} {base b0 : Nat} {spare : Nat → Bool} {held : Bool} {r : Reach}
set_option maxRecDepth 100000 in
theorem shifts_of_trod {fuel:Nat} {v:Value} {x:DataW H × List MemPlace} (hf:DataW.trod enc Tryz.prog W b0 spare held fuel 25 [v] = some x):∃ A n c l,v=.slice A n c∧Shifts W A n l∧n≤c:=by
 rcases open_slice_fields Tryz.underlying25 Tryz.underlying63 (by kernel_rfl) (by kernel_rfl) hf with ⟨hcs,_⟩ | ⟨a,len,cap,m,D,Pl,hcs,_,hlc,_,hm,_,hcell⟩
 ·simp at hcs
  subst hcs
  exact ⟨none,0,0,[],rfl,⟨⟨rfl,rfl,fun h0=>absurd h0 (by omega)⟩,fun q hq=>by cases hq⟩,Nat.le_refl _⟩
 ·simp at hcs
  subst hcs
  have hlm:len≤m:=by rw [hm];split <;> omega
  have key:∀ i,i < len→∃ q:S,(Ints W q.A q.n q.l)∧∀ j u,(S.cells q)[j]? = some u→W.cell? (a.add (i * 6 + j))=some u:=by
   intro i hi
   obtain ⟨ys,n,_,_,_,hfld⟩:=hcell i (by omega)
   obtain ⟨v0,y0,d0,_,t0⟩:=hfld 0 _ rfl
   obtain ⟨v1,y1,d1,_,t1⟩:=hfld 1 _ rfl
   obtain ⟨v2,y2,d2,_,t2⟩:=hfld 2 _ rfl
   obtain ⟨v3,y3,d3,_,t3⟩:=hfld 3 _ rfl
   obtain ⟨v4,y4,d4,_,t4⟩:=hfld 4 _ rfl
   obtain ⟨v5,y5,d5,_,t5⟩:=hfld 5 _ rfl
   obtain ⟨n0,e0,_⟩:=DataW.trod_int Tryz.underlying3 t0
   obtain ⟨n1,e1,_⟩:=DataW.trod_int Tryz.underlying3 t1
   obtain ⟨n2,e2,_⟩:=DataW.trod_int Tryz.underlying3 t2
   obtain ⟨n3,e3,_⟩:=DataW.trod_int Tryz.underlying3 t3
   obtain ⟨n4,e4,_⟩:=DataW.trod_int Tryz.underlying3 t4
   obtain ⟨A5,m5,c5,l5,rfl,hI5,hc5⟩:=cints_of_trod t5
   simp at e0 e1 e2 e3 e4
   subst e0 e1 e2 e3 e4
   refine ⟨⟨n0,n1,n2,n3,n4,A5,m5,c5,l5⟩,hI5,?_⟩
   intro j u hu
   rcases j with _ | _ | _ | _ | _ | _ | j <;> simp [S.cells] at hu <;> subst hu <;> assumption
  obtain ⟨l,hl,hq⟩:=list_of key
  have hall:∀ q ∈ l,Ints W q.A q.n q.l:=fun q hq'=>by
   obtain ⟨i,hi⟩:=List.mem_iff_getElem?.1 hq'
   exact (hq i q hi).1
  exact ⟨_,_,_,l,rfl,⟨⟨hl.symm,by rw [flat_len S.cells 6 (fun _=>rfl),hl],fun _=>⟨a,rfl,flat_cell S.cells 6 (fun _=>rfl) (by omega) fun i q hi=>(hq i q hi).2⟩⟩,hall⟩,hlc⟩
set_option maxRecDepth 100000 in
theorem open_shifts {v:Value} {d:DataW H} {ps:List MemPlace} (hval:Value.okWide Tryz.prog W r base 25 v) (h:DataW.Trod enc Tryz.prog W b0 spare held 25 v d ps):∃ A n c l,v=.slice A n c∧Shifts W A n l∧n≤c:=by
 obtain ⟨a0,len,cap,rfl⟩:=okWide_slice Tryz.underlying25 hval
 obtain ⟨fuel,hf⟩:=h
 exact shifts_of_trod hf
set_option maxRecDepth 100000 in
theorem tours_of_trod {fuel:Nat} {v:Value} {x:DataW H × List MemPlace} (hf:DataW.trod enc Tryz.prog W b0 spare held fuel 27 [v] = some x):∃ A n c l,v=.slice A n c∧Tours W A n l∧n≤c∧∀ q ∈ l,q.n≤q.c∧q.n'≤q.c':=by
 rcases open_slice_fields Tryz.underlying27 Tryz.underlying80 (by kernel_rfl) (by kernel_rfl) hf with ⟨hcs,_⟩ | ⟨a,len,cap,m,D,Pl,hcs,_,hlc,_,hm,_,hcell⟩
 ·simp at hcs
  subst hcs
  exact ⟨none,0,0,[],rfl,⟨⟨rfl,rfl,fun h0=>absurd h0 (by omega)⟩,fun q hq=>by cases hq⟩,Nat.le_refl _,fun q hq=>by cases hq⟩
 ·simp at hcs
  subst hcs
  have hlm:len≤m:=by rw [hm];split <;> omega
  have key:∀ i,i < len→∃ q:TV,((Ints W q.A q.n q.t.stops∧Ints W q.A' q.n' q.t.times)∧q.n≤q.c∧q.n'≤q.c')∧∀ j u,(TV.cells q)[j]? = some u→W.cell? (a.add (i * 4 + j))=some u:=by
   intro i hi
   obtain ⟨ys,n,_,_,_,hfld⟩:=hcell i (by omega)
   obtain ⟨v0,y0,d0,_,t0⟩:=hfld 0 _ rfl
   obtain ⟨v1,y1,d1,_,t1⟩:=hfld 1 _ rfl
   obtain ⟨v2,y2,d2,_,t2⟩:=hfld 2 _ rfl
   obtain ⟨v3,y3,d3,_,t3⟩:=hfld 3 _ rfl
   obtain ⟨n0,e0,_⟩:=DataW.trod_int Tryz.underlying3 t0
   obtain ⟨A1,m1,c1,l1,rfl,hI1,hc1⟩:=cints_of_trod t1
   obtain ⟨A2,m2,c2,l2,rfl,hI2,hc2⟩:=cints_of_trod t2
   obtain ⟨n3,e3,_⟩:=DataW.trod_int Tryz.underlying3 t3
   simp at e0 e3
   subst e0 e3
   refine ⟨⟨n0,A1,m1,c1,A2,m2,c2,⟨l1,l2,n3⟩⟩,⟨⟨hI1,hI2⟩,hc1,hc2⟩,?_⟩
   intro j u hu
   rcases j with _ | _ | _ | _ | j <;> simp [TV.cells] at hu <;> subst hu <;> assumption
  obtain ⟨l,hl,hq⟩:=list_of key
  have hall:∀ q ∈ l,(Ints W q.A q.n q.t.stops∧Ints W q.A' q.n' q.t.times)∧q.n≤q.c∧q.n'≤q.c':=fun q hq'=>by
   obtain ⟨i,hi⟩:=List.mem_iff_getElem?.1 hq'
   exact (hq i q hi).1
  exact ⟨_,_,_,l,rfl,⟨⟨hl.symm,by rw [flat_len TV.cells 4 (fun _=>rfl),hl],fun _=>⟨a,rfl,flat_cell TV.cells 4 (fun _=>rfl) (by omega) fun i q hi=>(hq i q hi).2⟩⟩,fun q h=>(hall q h).1⟩,hlc,fun q h=>(hall q h).2⟩
set_option maxRecDepth 100000 in
theorem open_tours {v:Value} {d:DataW H} {ps:List MemPlace} (hval:Value.okWide Tryz.prog W r base 27 v) (h:DataW.Trod enc Tryz.prog W b0 spare held 27 v d ps):∃ A n c l,v=.slice A n c∧Tours W A n l∧n≤c∧∀ q ∈ l,q.n≤q.c∧q.n'≤q.c':=by
 obtain ⟨a0,len,cap,rfl⟩:=okWide_slice Tryz.underlying27 hval
 obtain ⟨fuel,hf⟩:=h
 exact tours_of_trod hf
set_option maxRecDepth 100000 in
theorem blks_of_trod {fuel:Nat} {v:Value} {x:DataW H × List MemPlace} (hf:DataW.trod enc Tryz.prog W b0 spare held fuel 28 [v] = some x):∃ A n c l,v=.slice A n c∧Blks W A n l∧n≤c∧∀ q ∈ l,q.vn≤q.vc:=by
 rcases open_slice_fields Tryz.underlying28 Tryz.underlying90 (by kernel_rfl) (by kernel_rfl) hf with ⟨hcs,_⟩ | ⟨a,len,cap,m,D,Pl,hcs,_,hlc,_,hm,_,hcell⟩
 ·simp at hcs
  subst hcs
  exact ⟨none,0,0,[],rfl,⟨⟨rfl,rfl,fun h0=>absurd h0 (by omega)⟩,fun q hq=>by cases hq⟩,Nat.le_refl _,fun q hq=>by cases hq⟩
 ·simp at hcs
  subst hcs
  have hlm:len≤m:=by rw [hm];split <;> omega
  have key:∀ i,i < len→∃ q:BV,((Ints W q.V q.vn q.v∧Labs W q.LA q.ln q.lb)∧q.vn≤q.vc)∧∀ j u,(BV.cells q)[j]? = some u→W.cell? (a.add (i * 3 + j))=some u:=by
   intro i hi
   obtain ⟨ys,n,_,_,_,hfld⟩:=hcell i (by omega)
   obtain ⟨v0,y0,d0,_,t0⟩:=hfld 0 _ rfl
   obtain ⟨v1,y1,d1,_,t1⟩:=hfld 1 _ rfl
   obtain ⟨v2,y2,d2,_,t2⟩:=hfld 2 _ rfl
   obtain ⟨n0,e0,_⟩:=DataW.trod_int Tryz.underlying3 t0
   obtain ⟨A1,m1,c1,l1,rfl,hI1,hc1⟩:=cints_of_trod t1
   obtain ⟨A2,m2,c2,l2,rfl,hI2⟩:=labs_of_trod t2
   simp at e0
   subst e0
   refine ⟨⟨n0,A1,m1,c1,l1,A2,m2,c2,l2⟩,⟨⟨hI1,hI2⟩,hc1⟩,?_⟩
   intro j u hu
   rcases j with _ | _ | _ | j <;> simp [BV.cells] at hu <;> subst hu <;> assumption
  obtain ⟨l,hl,hq⟩:=list_of key
  have hall:∀ q ∈ l,(Ints W q.V q.vn q.v∧Labs W q.LA q.ln q.lb)∧q.vn≤q.vc:=fun q hq'=>by
   obtain ⟨i,hi⟩:=List.mem_iff_getElem?.1 hq'
   exact (hq i q hi).1
  exact ⟨_,_,_,l,rfl,⟨⟨hl.symm,by rw [flat_len BV.cells 3 (fun _=>rfl),hl],fun _=>⟨a,rfl,flat_cell BV.cells 3 (fun _=>rfl) (by omega) fun i q hi=>(hq i q hi).2⟩⟩,fun q h=>(hall q h).1⟩,hlc,fun q h=>(hall q h).2⟩
set_option maxRecDepth 100000 in
theorem open_blks {v:Value} {d:DataW H} {ps:List MemPlace} (hval:Value.okWide Tryz.prog W r base 28 v) (h:DataW.Trod enc Tryz.prog W b0 spare held 28 v d ps):∃ A n c l,v=.slice A n c∧Blks W A n l∧n≤c∧∀ q ∈ l,q.vn≤q.vc:=by
 obtain ⟨a0,len,cap,rfl⟩:=okWide_slice Tryz.underlying28 hval
 obtain ⟨fuel,hf⟩:=h
 exact blks_of_trod hf
end
end Go.Proofs.YtippdjmpkafifaaGreat
