import Derived.Test.YtippdjmpkafifaaGreatCF16
import Derived.Test.YtippdjmpkafifaaGreatCF18
import Derived.Test.YtippdjmpkafifaaGreatCF15
import Derived.Test.YtippdjmpkafifaaGreatCF17
import Derived.Deep.AppendLies
import Derived.Deep.RegionLaw
namespace Go.Proofs.YtippdjmpkafifaaGreat
open Go.RowKit
def rank32 (m k:Nat) (v10 v11:Value) (w:World):Nat:=match v11 with
 | .bool true=>(m ^ k - A.val m ((readInts w v10).map Int.toNat)) + 1
 | _=>0
theorem toNat_nat (d:List Nat):(K.nat d).map Int.toNat=d:=by
 unfold K.nat
 rw [List.map_map]
 conv=>rhs;rw [←List.map_id d]
 congr 1
theorem rank_of {w:World} {A0:Option Addr} {n c m k:Nat} {d:List Nat} (h:Ints w A0 n (K.nat d)):rank32 m k (.slice A0 n c) (.bool true) w=(m ^ k - A.val m d) + 1:=by
 unfold rank32
 rw [readInts_ints h,toNat_nat]
namespace K
def hits32 (bl:List BV) (d:List Nat):Bool:=bl.any fun b=>A.part b.v (A.share d b.sh.toNat 0)
theorem blocked_all {bl:List BV} {m n:Nat} (hb:∀ b ∈ bl,0≤b.sh∧b.sh < (m:Int)):A.blocked (bl.map fun b=>(b.sh.toNat,b.v)) m n 0 (List.replicate m [])=(A.exts m n).all (hits32 bl):=by
 rw [Bool.eq_iff_iff,A.blocked_iff n 0 _ (List.length_replicate ..),List.all_eq_true]
 have key:∀ d ∈ A.exts m n,A.hit (bl.map fun b=>(b.sh.toNat,b.v)) (A.place (List.replicate m []) 0 d)=hits32 bl d:=fun d hd=>by
  rw [A.place_list hd]
  unfold A.hit hits32
  rw [List.any_map]
  have e:∀ b ∈ bl,((fun b:Nat × List Int=>A.part b.2 ((((List.range m).map fun s=>A.share d s 0)[b.1]?).getD [])) ∘ fun b:BV=>(b.sh.toNat,b.v)) b=A.part b.v (A.share d b.sh.toNat 0):=fun b hb'=>by
   have h1:=hb b hb'
   show A.part b.v ((((List.range m).map fun s=>A.share d s 0)[b.sh.toNat]?).getD [])=_
   rw [List.getElem?_map,List.getElem?_range (by omega)]
   rfl
  rw [Bool.eq_iff_iff,List.any_eq_true,List.any_eq_true]
  exact ⟨fun ⟨b,h1,h2⟩=>⟨b,h1,by rw [←e b h1];exact h2⟩,fun ⟨b,h1,h2⟩=>⟨b,h1,by rw [e b h1];exact h2⟩⟩
 exact ⟨fun h d hd=>by rw [←key d hd];exact h d hd,fun h d hd=>by rw [key d hd];exact h d hd⟩
theorem exts_none {n:Nat} (H:List Nat→Bool) (h:H [] = false):(A.exts 0 n).all H=decide (0 < n):=by
 cases n with
 | zero=>simp [A.exts,h]
 | succ n =>
  have:A.exts 0 (n + 1)=[]:=by simp [A.exts]
  rw [this]
  simp
end K
theorem vlen_of {w:World} {V:Option Addr} {vn N:Nat} {v:List Int} (h:Ints w V vn v) (hv:v.length≤N):vn≤N:=by rw [h.1];exact hv
theorem drop_any' {α:Type} {p:α→Bool} {l:List α} {k:Nat} {x:α} (h:l[k]? = some x):(l.take (k + 1)).any p=((l.take k).any p || p x):=by
 rw [take_snoc h,List.any_append]
 simp
set_option maxRecDepth 100000 in
set_option maxHeartbeats 16000000 in
theorem rrefutes29_any (x:Cs) (BA:Option Addr) (bn bc:Nat) (bl:List BV) (w:World) (hx:CsAt w x) (hB:Blks w BA bn bl) (hF:FewB bn bl) :
  Calls Tryz.prog 29 #[.agg #[.int .i64 x.nd,.slice x.A x.n x.c],.slice x.SA x.sn x.sc,.slice x.B x.m x.d,.slice BA bn bc] w fun e w'=>e=.returned (.bool (K.refutes x.nd x.l x.ss x.r (bl.map BV.pr)))∧Below w.heap.size w w':=by
 obtain ⟨w0,hw0⟩:∃ w0:World,w0=w.alloc (.cells #[.int .i64 x.nd,.slice x.A x.n x.c] 24):=⟨_,rfl⟩
 have b0:Below w.heap.size w w0:=by rw [hw0];exact (Below.refl _ _).alloc (Nat.le_refl _) _
 obtain ⟨G0,hG0⟩:∃ G0,G0=w.heap.size:=⟨_,rfl⟩
 have hN:Net w0 G0 x.nd x.A x.n x.c:=by rw [hw0,hG0];exact Net.new w x.nd x.A x.n x.c
 have p0:=hN.c0
 have p1:=hN.c1
 obtain ⟨R,hR⟩:∃ R,R=K.refutes x.nd x.l x.ss x.r (bl.map BV.pr):=⟨_,rfl⟩
 have HR:=Lib.hid hR
 rw [←hR]
 clear hR
 have HBN:=Lib.hid hB.1.1
 obtain ⟨hbn9,hbs⟩:=hF
 go_enter Tryz.func29,Tryz.ntmps29
 go_wp2_with fail
 rw [←hw0,←hG0]
 clear hw0 hG0
 refine (rstart69_any x _ (hx.below b0)).mono ?_
 obtain ⟨ce,hce⟩:∃ ce,ce=K.pcheck x.nd x.l x.ss x.r:=⟨_,rfl⟩
 rw [←hce]
 rintro e w1 ⟨rfl,b1⟩
 have hN1:=hN.below b1
 have hb1:=bel b0 b1
 clear p0 p1 b0 b1 hN
 by_cases hz:ce=0
 rotate_left
 ·have HX:=Lib.hid (show R=false by rw [HR.out];exact K.refutes_err (by rw [←hce];exact hz))
  have hd:(ce != 0)=true:=by simp [bne,hz]
  have hd2:decide (ce=0)=false:=by simp [hz]
  clear hce hz
  go_wp2_with fail
  go_ret
  exact ⟨by rw [HX.out];rfl,hb1⟩
 subst hz
 have HOK:=Lib.hid hce.symm
 clear hce
 have HSN:=Lib.hid hx.shifts.1.1
 have HRN:=Lib.hid hx.reqs.1
 have hm6:x.m≤6:=by rw [HRN.out];exact (K.pcheck_ok HOK.out).2.2.2.2
 have hsn4:x.sn≤4:=by rw [HSN.out];exact (K.pcheck_ok HOK.out).2.1
 by_cases hmany:bn≤200
 rotate_left
 ·have hd1:decide ((200:Int) < (bn:Int))=true:=by simp;omega
  have hd2:decide (200 < bn)=true:=by simp;omega
  have HX:=Lib.hid (show R=false by rw [HR.out];exact K.refutes_many (by rw [List.length_map,←HBN.out];exact hmany))
  clear hmany
  go_wp2_with fail
  go_ret
  exact ⟨by rw [HX.out];rfl,hb1⟩
 have hd1:decide ((200:Int) < (bn:Int))=false:=by simp;omega
 have hd2:decide (200 < bn)=false:=by simp;omega
 obtain ⟨P,hP⟩:∃ P,P=A.blocked (bl.map fun b=>(b.sh.toNat,b.v)) x.sn x.m 0 (List.replicate x.sn []):=⟨_,rfl⟩
 have HGO:=Lib.hid (show R=(((bl.map BV.pr).drop 0).all (K.okBlock x.nd x.l x.ss x.r) && P) by
  rw [HR.out,K.refutes_go HOK.out (by rw [List.length_map,←HBN.out];exact hmany),hP,HSN.out,HRN.out,List.map_map]
  rfl)
 have HP:=Lib.hid hP
 obtain ⟨L,hL⟩:∃ L,L=bl.map BV.pr:=⟨_,rfl⟩
 rw [←hL] at HGO
 have HL:=Lib.hid hL
 clear hP hL
 go_wp2_with fail
 clear hd1 hd2
 go_loopw [9] (fun v9 wr=>∃ k:Nat,v9=.int .i64 k∧k≤bn∧Below w1.heap.size w1 wr∧Hid (R=((L.drop k).all (K.okBlock x.nd x.l x.ss x.r) && P))∧Hid (∀ (j:Nat) (b:BV),j < k→bl[j]? = some b→0≤b.sh∧b.sh < (x.sn:Int))) (fun v9 _=>bn - (intOf v9).toNat)
 case atStart=>exact ⟨0,rfl,Nat.zero_le _,Below.refl _ _,HGO.out,fun j b h=>absurd h (by omega)⟩
 case round =>
  obtain ⟨k,rfl,hk,hbr,hrr,hrg⟩:=hrel
  by_cases hlt:k < bn
  ·obtain ⟨ad,y,hBA,hy,⟨hI1,hI2⟩,c0,c1,c2⟩:=(hB.below (bel hb1 hbr)).at_ hlt
   obtain ⟨hv1,hv2,hv3⟩:=hbs y (List.mem_of_getElem? hy)
   have hLk:L[k]? = some y.pr:=by rw [HL.out,List.getElem?_map,hy];rfl
   have HDR:=Lib.hid (show R=((K.okBlock x.nd x.l x.ss x.r y.pr && (L.drop (k + 1)).all (K.okBlock x.nd x.l x.ss x.r)) && P) by rw [hrr.out,K.allb_drop hLk])
   have HY:=Lib.hid hy
   have k0:(0:Int)≤(k:Int):=by omega
   have k1:(k:Int) < (bn:Int):=by omega
   have hxw3:=(hx.below hb1).below hbr
   have hNr:=hN1.below hbr
   clear hy hLk hrr
   rw [hBA]
   go_upto_region 7 with fail
   by_cases hneg:y.sh < 0
   ·have HX:=Lib.hid (show R=false by rw [HDR.out,K.okb_no (b:=y.pr) (.inl hneg)];rfl)
    have hd1:decide (y.sh < 0)=true:=decide_eq_true hneg
    clear hneg c0 c1 c2
    go_wp2_with fail
    go_ret
    exact ⟨by rw [HX.out];rfl,bel hb1 hbr⟩
   have hd1:decide (y.sh < 0)=false:=decide_eq_false hneg
   by_cases hbig:(x.sn:Int)≤y.sh
   ·have HX:=Lib.hid (show R=false by rw [HDR.out,K.okb_no (b:=y.pr) (.inr (by rw [←HSN.out];exact hbig))];rfl)
    have hd2:decide ((x.sn:Int)≤y.sh)=true:=decide_eq_true hbig
    clear hneg hbig c0 c1 c2
    go_wp2_with fail
    go_ret
    exact ⟨by rw [HX.out];rfl,bel hb1 hbr⟩
   have hd2:decide ((x.sn:Int)≤y.sh)=false:=decide_eq_false hbig
   obtain ⟨s,hs⟩:∃ s:Nat,y.sh=(s:Int):=⟨y.sh.toNat,by omega⟩
   have hsn:s < x.sn:=by omega
   obtain ⟨ads,sS,hSA,hsS,hIS,s0,s1,s2,s3,s4,s5⟩:=hxw3.shifts.at_ hsn
   have HOB:=Lib.hid (K.okb_at (nd:=x.nd) (l:=x.l) (r:=x.r) (b:=y.pr) (show 0≤y.sh by omega) (show x.ss[y.sh.toNat]? = some sS by rw [hs];exact hsS))
   have hsm:=List.mem_of_getElem? hsS
   have HRG:=Lib.hid (show ∀ (j:Nat) (b:BV),j < k + 1→bl[j]? = some b→0≤b.sh∧b.sh < (x.sn:Int) from fun j b hj hb=>by
    by_cases e:j=k
    ·rw [e,HY.out] at hb
     injection hb with hb
     rw [←hb,hs]
     omega
    ·exact hrg.out j b (by omega) hb)
   have HSS:=Lib.hid hs
   have q0:=Beh.cell c0
   have q1:=Beh.cell c1
   have q2:=Beh.cell c2
   have p0:=Beh.cell hNr.c0
   have p1:=Beh.cell hNr.c1
   have r0:=Beh.cell s0
   have r1:=Beh.cell s1
   have r2:=Beh.cell s2
   have r3:=Beh.cell s3
   have r4:=Beh.cell s4
   have r5:=Beh.cell s5
   obtain ⟨cb,hcb⟩:∃ cb,cb=K.blocks x.nd x.l sS x.r y.v y.lb:=⟨_,rfl⟩
   have CT:∀ i:Beh wr,Calls Tryz.prog 90 #[.agg #[.int .i64 x.nd,.slice x.A x.n x.c],.agg #[.int .i64 sS.day,.int .i64 sS.depot,.int .i64 sS.start,.int .i64 sS.end_,.int .i64 sS.tare,.slice sS.A sS.n sS.c],.slice x.B x.m x.d,.agg #[.int .i64 y.sh,.slice y.V y.vn y.vc,.slice y.LA y.ln y.lc]] i.val fun e w'=>e=.returned (.bool cb)∧Below i.val.heap.size i.val w':=fun i=>by
    rw [hcb]
    exact blocks31_any (x.one sS) y.sh y.V y.vn y.vc y.v y.LA y.ln y.lc y.lb i.val ((hxw3.below i.property).case hsm) (hI1.below i.property) hv2 (Lst.below hI2 i.property) hv3
   have HCB:=Lib.hid (show K.okBlock x.nd x.l x.ss x.r y.pr=cb by rw [HOB.out,hcb];rfl)
   have ks0:(0:Int)≤(s:Int):=by omega
   have ks1:(s:Int) < (x.sn:Int):=by omega
   have kd1:decide ((s:Int) < 0)=false:=by simp
   have kd2:decide ((x.sn:Int)≤(s:Int))=false:=by simp;omega
   have kd3:decide (x.sn≤s)=false:=by simp;omega
   rw [HSS.out] at q0 CT hd1 hd2 ⊢
   rw [hSA]
   have HSA:=Lib.hid hSA
   clear hs hsS hneg hbig hrg hcb HOB hSA s0 s1 s2 s3 s4 s5 c0 c1 c2 hIS
   go_upto_region 9 with fail
   refine reg_beh (by kernel_rfl) (by kernel_rfl) ?_
   repeat (go_big_quiet_step ((go_at_call 90;exact Beh.calls (CT _))))
   refine wpQuiet_nil ?_
   rintro w4 ⟨⟨w4,b4⟩,rfl⟩
   rw [←HSA.out]
   have hb4:=bel hbr b4
   clear q0 q1 q2 p0 p1 r0 r1 r2 r3 r4 r5 CT hI1 hI2 b4 hbr hd1 hd2
   cases cb
   ·have HX:=Lib.hid (show R=false by rw [HDR.out,HCB.out];rfl)
    go_wp2_with fail
    go_ret
    exact ⟨by rw [HX.out];rfl,bel hb1 hb4⟩
   ·have HNX:=Lib.hid (show R=((L.drop (k + 1)).all (K.okBlock x.nd x.l x.ss x.r) && P) by rw [HDR.out,HCB.out,Bool.true_and])
    go_wp2_with fail
    go_roundw
    case rel=>(go_light;exact ⟨k + 1,by go_num,hlt,hb4,HNX.out,HRG.out⟩)
    case measure=>(go_light;simp [intOf];omega)
  ·have HE0:=Lib.hid (show R=P by rw [hrr.out,List.drop_eq_nil_of_le (by rw [HL.out,List.length_map,←HBN.out];omega)];rfl)
   have hok:∀ b ∈ bl,0≤b.sh∧b.sh < (x.sn:Int):=fun b hb=>by
    obtain ⟨j,hj,e⟩:=List.getElem_of_mem hb
    exact hrg.out j b (by have:=HBN.out;omega) (by rw [List.getElem?_eq_getElem hj,e])
   have HE:=Lib.hid (show R=(A.exts x.sn x.m).all (K.hits32 bl) by rw [HE0.out,HP.out];exact K.blocked_all hok)
   have HOKB:=Lib.hid hok
   have hd:decide ((k:Int) < (bn:Int))=false:=by simp;omega
   have hd2:decide (k < bn)=false:=by simp;omega
   clear hrr hrg hok HE0
   by_cases h3:0 < x.sn
   rotate_left
   ·have d5:((x.sn:Int) == 0)=true:=by simp;omega
    have d6:decide ((x.sn:Int)=0)=true:=by simp;omega
    have d7:x.sn=0:=by omega
    have hX:R=decide (0 < x.m):=by
     rw [HE.out,d7]
     refine K.exts_none _ ?_
     have:bl=[]:=by
      cases hbl:bl with
      | nil=>rfl
      | cons b l =>
       have:=HOKB.out b (by rw [hbl];exact List.mem_cons_self ..)
       omega
     rw [this]
     rfl
    have HX:=Lib.hid hX
    have hb9:=bel hb1 hbr
    clear hX h3 d7 hlt hk
    by_cases hm0:0 < x.m
    ·have d8:decide ((0:Int) < (x.m:Int))=true:=by simp;omega
     have d9:decide (0 < x.m)=true:=by simp;omega
     have HX2:=Lib.hid (HX.out.trans d9)
     clear hm0
     go_wp2_with fail
     go_ret
     exact ⟨by rw [HX2.out];rfl,hb9⟩
    ·have d8:decide ((0:Int) < (x.m:Int))=false:=by simp;omega
     have d9:decide (0 < x.m)=false:=by simp;omega
     have HX2:=Lib.hid (HX.out.trans d9)
     clear hm0
     go_wp2_with fail
     go_ret
     exact ⟨by rw [HX2.out];rfl,hb9⟩
   have d5:((x.sn:Int) == 0)=false:=by simp;omega
   have d6:decide ((x.sn:Int)=0)=false:=by simp;omega
   obtain ⟨h,hh⟩:∃ h,h=wr.heap.size:=⟨_,rfl⟩
   obtain ⟨w5,hw5⟩:∃ w5:World,w5=wr.alloc (.cells (intCells (List.replicate x.m 0)).toArray 3):=⟨_,rfl⟩
   have b45:Below wr.heap.size wr w5:=by rw [hw5];exact (Below.refl _ _).alloc (Nat.le_refl _) _
   have hI5:Ints w5 (some ⟨h,0,none⟩) x.m (K.nat (List.replicate x.m 0)):=by
    have h9:IBlk w5 h (List.replicate x.m 0):=by rw [hw5,hh];exact heap_alloc_new _ _
    have h8:=h9.ints
    rw [List.length_replicate] at h8
    unfold K.nat
    rw [List.map_replicate]
    exact h8
   have hmk:=make_ints x.m (by omega)
   have hb5:=bel hb1 (bel hbr b45)
   clear hlt hk
   go_wp2_with fail
   rw [←hw5,←hh]
   clear hw5 hh hmk b45 hbr hb1 d5 d6 hd hd2
   have hex0:=A.exts_zero h3 x.m
   go_loopw [11,12] (fun v11 v12 wr=>Below w5.heap.size w5 wr∧((v12=.bool false∧Hid (∀ e ∈ A.exts x.sn x.m,K.hits32 bl e=true))∨∃ (j:Nat) (d:List Nat) (LA:Option Addr) (ln lc:Nat),v12=.bool true∧v11=.slice LA ln lc∧Ints wr LA ln (K.nat d)∧Hid ((A.exts x.sn x.m)[j]? = some d)∧Hid (∀ e ∈ (A.exts x.sn x.m).take j,K.hits32 bl e=true))) (fun v11 v12 wr=>rank32 x.sn x.m v11 v12 wr)
   case atStart=>exact ⟨Below.refl _ _,.inr ⟨0,_,_,_,_,rfl,rfl,hI5,hex0,fun e he=>(by cases he)⟩⟩
   case round =>
    clear hI5 hex0
    obtain ⟨hbr,(⟨rfl,hno⟩ | ⟨j,d,LA,ln,lc,rfl,rfl,hI,hj,hbef⟩)⟩:=hrel
    ·have HX:=Lib.hid (show R=true by rw [HE.out,List.all_eq_true];exact hno.out)
     go_wp2_with fail
     go_ret
     exact ⟨by rw [HX.out];rfl,bel hb5 hbr⟩
    ·obtain ⟨wo,hwo⟩:∃ wo:World,wo=wr:=⟨_,rfl⟩
     subst hwo
     obtain ⟨hdl,hdm⟩:=A.mem_exts.1 (List.mem_of_getElem? hj.out)
     have hln:ln=x.m:=by rw [hI.1];unfold K.nat;rw [List.length_map];exact hdl
     have HLN:=Lib.hid hln
     have HDL:=Lib.hid hdl
     have HDM:=Lib.hid hdm
     have hln3:ln≤1000:=by omega
     have hdl9:d.length≤1000:=by omega
     have HRK:=Lib.hid (rank_of (c:=lc) (m:=x.sn) (k:=x.m) hI)
     have hb6:=bel hb5 hbr
     have hBr:=hB.below hb6
     clear hdl hdm hln
     go_wp2_with fail
     go_loopw [13,14] (fun v13 v14 wi=>∃ i:Nat,v14=.int .i64 i∧i≤bn∧v13=.bool ((bl.take i).any fun b=>A.part b.v (A.share d b.sh.toNat 0))∧Below wo.heap.size wo wi) (fun _ v14 _=>bn - (intOf v14).toNat)
     case atStart=>exact ⟨0,rfl,Nat.zero_le _,rfl,Below.refl _ _⟩
     case round =>
      obtain ⟨i,rfl,hi,rfl,hbi⟩:=hrel
      have hbw:=bel hbr hbi
      by_cases hlt:i < bn
      ·obtain ⟨ad,b,hBA,hb_,⟨hIv,-⟩,c0,c1,c2⟩:=(hBr.below hbi).at_ hlt
       obtain ⟨s,hs⟩:∃ s:Nat,b.sh=(s:Int):=⟨b.sh.toNat,by have:=HOKB.out b (List.mem_of_getElem? hb_);omega⟩
       have hvn:=(hbs b (List.mem_of_getElem? hb_)).2.1
       have HNX:=Lib.hid (drop_any' (p:=fun b=>A.part b.v (A.share d b.sh.toNat 0)) hb_)
       obtain ⟨z,hz⟩:∃ z,z=(bl.take i).any fun b=>A.part b.v (A.share d b.sh.toNat 0):=⟨_,rfl⟩
       rw [←hz] at HNX ⊢
       obtain ⟨z2,hz2⟩:∃ z2,z2=A.part b.v (A.share d s 0):=⟨_,rfl⟩
       have HZ2:=Lib.hid (show A.part b.v (A.share d b.sh.toNat 0)=z2 by rw [hz2,hs];rfl)
       have HZ3:=Lib.hid hz2.symm
       have i0:(0:Int)≤(i:Int):=by omega
       have i1:(i:Int) < (bn:Int):=by omega
       have hki:(i + 1)≤bn:=hlt
       rw [hs] at c0
       clear hz hz2 hs hb_ c2 hi
       rw [hBA]
       clear hBA
       cases z
       ·have HQ:=Lib.hid (show ((bl.take (i + 1)).any fun b=>A.part b.v (A.share d b.sh.toNat 0))=z2 by rw [HNX.out,HZ2.out,Bool.false_or])
        have hmk2:∀ w',Below wr.heap.size wr w'→(fun w':World=>w'.cell? (ad.add (i * 3))=some (.int .i64 (s:Int))∧w'.cell? ⟨(ad.add (i * 3)).block,(ad.add (i * 3)).off + 1,none⟩=some (.slice b.V b.vn b.vc)) w':=fun w' h=>⟨(h.cell (cell_lt c0)).trans c0,(h.cell (cell_lt c1)).trans c1⟩
        have hR0:Below wr.heap.size wr wr:=Below.refl _ _
        have hR0d:=hR0.drew
        have S0:=hmk2 _ hR0
        have S0d:=hmk2 _ hR0d
        have hIi:=hI.below hbi
        clear c0 c1 HNX HZ2
        go_upto_region 21 with fail
        go_region_held3 (fun w':World=>w'.cell? (ad.add (i * 3))=some (.int .i64 (s:Int))∧w'.cell? ⟨(ad.add (i * 3)).block,(ad.add (i * 3)).off + 1,none⟩=some (.slice b.V b.vn b.vc))
         (first | with_reducible exact S2 | with_reducible exact S1 | with_reducible exact S0d | with_reducible exact S0 | fail)
         (first
          | (go_at_call 73;refine (share22_any LA ln lc d s _ (hIi.below hR0d) hln3).mono ?_;rintro e wd ⟨⟨V,vn,vc,rfl,hVd,hvc⟩,bd⟩;have bd2:=bel hR0d bd;have S1:=hmk2 _ bd2;have hvl:=vlen_of hVd (Nat.le_trans (A.share_len s d 0) hdl9))
          | (go_at_call 80;refine (rpart80_any b.V b.vn b.vc b.v V vn vc _ _ ((hIv.below bd2)) hvn hVd (by omega)).mono ?_;rintro e we ⟨rfl,be⟩;rw [HZ3.out];have be2:=bel bd2 be;have S2:=hmk2 _ be2)
          | fail)
        have hbe:=bel hbi be2
        clear S0 S0d S1 S2 hmk2 hR0 hR0d
        go_wp2_with fail
        go_roundw
        case rel=>(go_light;exact ⟨i + 1,by go_num,hki,by rw [HQ.out],hbe⟩)
        case measure=>(go_light;simp [intOf];omega)
       ·have HQ:=Lib.hid (show ((bl.take (i + 1)).any fun b=>A.part b.v (A.share d b.sh.toNat 0))=true by rw [HNX.out,Bool.true_or])
        clear c0 c1 HNX HZ2
        go_upto_region 21 with fail
        refine reg_beh (by kernel_rfl) (by kernel_rfl) ?_
        repeat (go_big_quiet_step (fail))
        refine wpQuiet_nil ?_
        rintro w4 ⟨⟨w4,b4⟩,rfl⟩
        have hbe:=bel hbi b4
        go_wp2_with fail
        go_roundw
        case rel=>(go_light;exact ⟨i + 1,by go_num,hki,by rw [HQ.out],hbe⟩)
        case measure=>(go_light;simp [intOf];omega)
      ·have hall:(bl.take i).any (fun b=>A.part b.v (A.share d b.sh.toNat 0))=K.hits32 bl d:=by rw [List.take_of_length_le (by have:=HBN.out;omega)];rfl
       rw [hall]
       have hd:decide ((i:Int) < (bn:Int))=false:=by simp;omega
       have hd2:decide (i < bn)=false:=by simp;omega
       obtain ⟨z,hz⟩:∃ z,z=K.hits32 bl d:=⟨_,rfl⟩
       have HZ:=Lib.hid hz
       rw [←hz]
       have hI6:=hI.below hbi
       have CN:=next20_any LA ln lc d x.sn wr hI6 hln3 HDM.out (by omega)
       have HEX:=Lib.hid (A.next_exts h3 hj.out)
       obtain ⟨nx,hnx⟩:∃ nx,nx=A.next x.sn d:=⟨_,rfl⟩
       rw [←hnx] at CN HEX
       have HNX:=Lib.hid hnx
       clear hall hz hnx hlt hi
       cases z
       ·have HX:=Lib.hid (show R=false by
         rw [HE.out,List.all_eq_false]
         exact ⟨d,List.mem_of_getElem? hj.out,by rw [←HZ.out];decide⟩)
        clear CN
        go_wp2_with fail
        go_ret
        exact ⟨by rw [HX.out];rfl,bel hb5 hbw⟩
       have HBF:=Lib.hid (show ∀ e ∈ (A.exts x.sn x.m).take (j + 1),K.hits32 bl e=true from fun e he=>by
        rw [take_snoc hj.out] at he
        rcases List.mem_append.1 he with he | he
        ·exact hbef.out e he
        ·rw [List.mem_singleton.1 he];exact HZ.out.symm)
       go_wp2_with fail
       refine CN.mono ?_
       rintro e w7 ⟨(⟨hnn,rfl⟩ | ⟨d',A',n',c',hnn,rfl,hI',hc'⟩),b7⟩
       ·have HALL:=Lib.hid (show ∀ e ∈ A.exts x.sn x.m,K.hits32 bl e=true by
         have h9:=HEX.out
         rw [hnn] at h9
         have h8:=List.getElem?_eq_none_iff.1 h9.symm
         have h7:=HBF.out
         rw [List.take_of_length_le h8] at h7
         exact h7)
        have hb7:=bel hbw b7
        have HME:=Lib.hid (show rank32 x.sn x.m (.slice none 0 0) (.bool false) w7 < rank32 x.sn x.m (.slice LA ln lc) (.bool true) wo by rw [HRK.out];exact Nat.succ_pos _)
        clear hnn CN
        go_wp2_with fail
        go_roundw
        case rel=>(go_light;exact ⟨hb7,.inl ⟨rfl,HALL.out⟩⟩)
        case measure=>(go_light;exact HME.out)
       ·have hb7:=bel hbw b7
        have HME:=Lib.hid (show rank32 x.sn x.m (.slice A' n' c') (.bool true) w7 < rank32 x.sn x.m (.slice LA ln lc) (.bool true) wo by
         rw [HRK.out,rank_of hI']
         have h9:=((A.val_next HDM.out).1 d' (by rw [←HNX.out];exact hnn)).1
         have h8:=A.val_lt HDM.out
         rw [HDL.out] at h8
         omega)
        have HEJ:=Lib.hid (show (A.exts x.sn x.m)[j + 1]? = some d' by rw [←HEX.out];exact hnn)
        clear hnn CN
        go_wp2_with fail
        go_roundw
        case rel=>(go_light;exact ⟨hb7,.inr ⟨j + 1,d',A',n',c',rfl,rfl,hI',HEJ.out,HBF.out⟩⟩)
        case measure=>(go_light;exact HME.out)
theorem bel_allocK (w:World) (o:Obj):Below w.heap.size w (w.alloc o):=(Below.refl _ _).alloc (Nat.le_refl _) _
set_option maxRecDepth 100000 in
set_option maxHeartbeats 16000000 in
theorem rcheck53_any (x:Cs) (LA:Option Addr) (ln lc:Nat) (lost:List Int) (KA:Option Addr) (kn kc:Nat) (kept:List Int) (TA:Option Addr) (tn tc:Nat) (ts:List TV) (RA:Option Addr) (rn rc:Nat) (rl:List RV) (w:World) (hx:CsAt w x) (hL:Ints w LA ln lost) (hK:Ints w KA kn kept) (hT:Tours w TA tn ts) (hR:Rsn w RA rn rl)
  (hln:ln≤1000000000) (hkn:kn≤1000000000) (hFT:FewT tn ts) (hyc:∀ y ∈ ts,y.n≤y.c) (hFR:FewR rn rl) (hsn:x.sn≤1000000) (hsr:∀ s ∈ x.ss,s.n≤1000000) :
  Calls Tryz.prog 53 #[.agg #[.int .i64 x.nd,.slice x.A x.n x.c,.slice x.SA x.sn x.sc,.slice x.B x.m x.d],.slice LA ln lc,.slice KA kn kc,.slice TA tn tc,.slice RA rn rc] w fun e w'=>e=.returned (.bool (K.kcheck x.nd x.l x.ss x.r lost kept (ts.map TV.pr) (rl.map RV.pr)))∧Below w.heap.size w w':=by
 obtain ⟨w1,hw1⟩:∃ w1:World,w1=w.alloc (.cells #[.int .i64 x.nd,.slice x.A x.n x.c,.slice x.SA x.sn x.sc,.slice x.B x.m x.d] 44):=⟨_,rfl⟩
 obtain ⟨g,hg⟩:∃ g,g=w.heap.size:=⟨_,rfl⟩
 have b1:Below w.heap.size w w1:=by rw [hw1];exact (Below.refl _ _).alloc (Nat.le_refl _) _
 have hN1:BkBlk w1 g x:=by rw [hw1,hg];exact BkBlk.new _ _
 have p0:=blk_cell hN1 0 _ rfl
 have p1:=blk_cell hN1 1 _ rfl
 have p2:=blk_cell hN1 2 _ rfl
 have p3:=blk_cell hN1 3 _ rfl
 have CR:=rrest46_any x LA ln lc lost w1 (hx.below b1) (hL.below b1) hln hsn
 obtain ⟨Z,hZ⟩:∃ Z,Z=K.kcheck x.nd x.l x.ss x.r lost kept (ts.map TV.pr) (rl.map RV.pr):=⟨_,rfl⟩
 rw [←hZ]
 have HZ:=Lib.hid hZ
 clear hZ
 have HRN:=Lib.hid hx.reqs.1
 have HKN:=Lib.hid hK.1
 have HLN:=Lib.hid (show (rl.map RV.pr).length=rn by rw [List.length_map,hR.1.1])
 have hb4:=hx.b4
 have hfr:=hFR.1
 go_enter Tryz.func53,Tryz.ntmps53
 go_upto_region 1 with fail
 rw [←hw1,←hg]
 clear hw1 hg
 go_wp2_with fail
 refine CR.mono ?_
 obtain ⟨er,her⟩:∃ er,er=K.restE x.nd x.l x.ss x.r lost:=⟨_,rfl⟩
 rw [←her]
 have HER:=Lib.hid her
 clear her
 rintro e w2 ⟨⟨RA2,rn2,rc2,RL,rfl,hRS,hRB⟩,b2⟩
 have hN2:=hN1.below b2
 have hb2:=bel b1 b2
 clear CR p0 p1 p2 p3 b1 b2 hN1
 have p0:=blk_cell hN2 0 _ rfl
 have p1:=blk_cell hN2 1 _ rfl
 have p2:=blk_cell hN2 2 _ rfl
 have p3:=blk_cell hN2 3 _ rfl
 by_cases hz:er=0
 rotate_left
 ·have HX:=Lib.hid (show Z=false by rw [HZ.out];exact K.keep_wrong (by rw [←HER.out];exact hz) _ _ _)
  have hd:(er != 0)=true:=by simp [bne,hz]
  go_wp2_with fail
  go_ret
  exact ⟨by rw [HX.out];rfl,hb2⟩
 subst hz
 have hE0:K.restE x.nd x.l x.ss x.r lost=0:=HER.out.symm
 have HP:=Lib.hid (K.restE_0 hE0).2
 have hm6:x.m≤6:=by rw [hx.reqs.1];exact (K.pcheck_ok HP.out).2.2.2.2
 obtain ⟨R,hRe⟩:∃ R,R=K.rest34 x.nd x.l x.ss x.r lost:=⟨_,rfl⟩
 rw [←hRe] at hRB
 have HR:=Lib.hid (show R=K.restGo lost 0 x.ss by rw [hRe];unfold K.rest34;rw [if_pos hE0])
 obtain ⟨hrn,hrs⟩:=rest_small hx hsn hsr (by rw [hRe];exact rest34_sub) hRS hRB
 have HZ2:=Lib.hid (show Z=(K.asc33 x.r.length (-1) kept && ((kept.length + (rl.map RV.pr).length == x.r.length) && K.kcheckGo x.nd x.l R kept (ts.map TV.pr) 0 x.r [] (rl.map RV.pr))) by
  rw [HZ.out,HR.out];unfold K.kcheck;rw [hE0];rfl)
 have HRB:=Lib.hid hRB
 clear HZ HER hE0 hRe hRB
 have CA:=rlist110_any KA kn kc kept x.m w2 (hK.below hb2) hkn (by omega)
 obtain ⟨z,hz⟩:∃ z,z=K.asc33 x.m (-1) kept:=⟨_,rfl⟩
 rw [←hz] at CA
 have HA:=Lib.hid (show z=K.asc33 x.r.length (-1) kept by rw [hz,HRN.out])
 clear hz
 obtain ⟨sm,hsm⟩:∃ sm,sm=kn + rn:=⟨_,rfl⟩
 have hwr:IntKind.i64.wrap ((kn:Int) + (rn:Int))=(sm:Int):=by rw [IntWalk.i64_in _ (by omega)];omega
 have HSS:=Lib.hid hsm
 clear hsm
 cases z
 ·have HX:=Lib.hid (show Z=false by rw [HZ2.out,←HA.out,Bool.false_and])
  go_wp2_with fail
  refine CA.mono ?_
  rintro e w3 ⟨rfl,b3⟩
  go_wp2_with fail
  go_ret
  exact ⟨by rw [HX.out];rfl,bel hb2 b3⟩
 go_wp2_with fail
 refine CA.mono ?_
 rintro e w3 ⟨rfl,b3⟩
 have hb3:=bel hb2 b3
 have hN3:=hN2.below b3
 have hRS3:=hRS.below b3
 clear CA p0 p1 p2 p3 hN2 hb2 b3 hRS
 have p0:=blk_cell hN3 0 _ rfl
 have p1:=blk_cell hN3 1 _ rfl
 have p2:=blk_cell hN3 2 _ rfl
 have p3:=blk_cell hN3 3 _ rfl
 by_cases hs:sm=x.m
 rotate_left
 ·have HX:=Lib.hid (show Z=false by rw [HZ2.out,←HA.out,Bool.true_and,HLN.out,←HKN.out,←HRN.out,←HSS.out,beq_eq_false_iff_ne.2 hs,Bool.false_and])
  have hd:((sm:Int) != (x.m:Int))=true:=by simp [bne];omega
  go_wp2_with fail
  go_ret
  exact ⟨by rw [HX.out];rfl,hb3⟩
 rw [hs] at hwr
 have HSM:=Lib.hid (show kept.length + (rl.map RV.pr).length=x.r.length by rw [HLN.out,←HKN.out,←HRN.out,←HSS.out];exact hs)
 have HZ3:=Lib.hid (show Z=K.kcheckGo x.nd x.l R kept (ts.map TV.pr) 0 x.r [] (rl.map RV.pr) by rw [HZ2.out,←HA.out,Bool.true_and,HSM.out,beq_self_eq_true,Bool.true_and])
 clear HZ2 hs HSS
 obtain ⟨B,hB⟩:∃ B,B=w3.heap.size:=⟨_,rfl⟩
 have hx3:=hx.below hb3
 have hK3:=hK.below hb3
 have hR3:=hR.below hb3
 have hT3:=hT.below hb3
 go_wp2_with fail
 clear p0 p1 p2 p3 hwr
 go_loopw [13,14,15] (fun v13 v14 v15 wr=>∃ (i j:Nat) (sv:List Q),v15=.int .i64 i∧v14=.int .i64 j∧i≤x.m∧j + sv.length=i∧wr.ownsRow B 47 7 v13 sv.length (sv.flatMap Q.cells)∧CSays x.nd x.l R x.r kept (ts.map TV.pr) (rl.map RV.pr) Z i sv∧Below w3.heap.size w3 wr) (fun _ _ v15 _=>x.m - (intOf v15).toNat)
 case atStart=>exact ⟨0,0,[],rfl,rfl,Nat.zero_le _,rfl,World.ownsRow_nil _ _ _ _,by rw [HZ3.out];exact CSays.zero HA.out.symm,Below.refl _ _⟩
 case round =>
  obtain ⟨i,j,sv,rfl,rfl,hi,hj,hown,hS,hbr⟩:=hrel
  have hxr:=hx3.below hbr
  have hNr:=hN3.below hbr
  have hsl:=hS.le
  have p3:=blk_cell hNr 3 _ rfl
  by_cases hlt:i < x.m
  ·obtain ⟨q,hq⟩:∃ q,x.r[i]? = some q:=⟨_,List.getElem?_eq_getElem (by rw [←HRN.out];exact hlt)⟩
   have HQ:=Lib.hid hq
   have k0:(0:Int)≤(i:Int):=by omega
   have k1:(i:Int) < (x.m:Int):=by omega
   have CK:=has55_any KA kn kc kept i wr (hK3.below hbr) hkn
   obtain ⟨z,hz⟩:∃ z,z=kept.contains (i:Int):=⟨_,rfl⟩
   rw [any_contains,←hz] at CK
   have HC:=Lib.hid hz
   have hin:∀ p ∈ sv ++ [q],p ∈ x.r:=fun p hp=>by
    rcases List.mem_append.1 hp with hp | hp
    ·exact hS.inr p hp
    ·rw [List.mem_singleton.1 hp];exact List.mem_of_getElem? HQ.out
   clear hq hz
   go_wp2_with fail
   refine CK.mono ?_
   rintro e w5 ⟨rfl,b5⟩
   have hown5:=own_below hown b5
   have hx5:=hxr.below b5
   have hN5:=hNr.below b5
   have hb5:=bel hbr b5
   clear CK p3
   have p3:=blk_cell hN5 3 _ rfl
   obtain ⟨adB,q',hA,hq',hW,c0,c1,c2,c3,c4,c5,c6⟩:=hx5.reqs.at_ hlt
   obtain rfl:q=q':=by
    have h9:=HQ.out
    rw [hq'] at h9
    injection h9 with h9
    exact h9.symm
   rw [hA] at p3
   clear hq' hA hW
   cases z
   rotate_left
   ·have HSY:=Lib.hid (hS.yes HA.out.symm HQ.out HC.out.symm)
    obtain ⟨w8,hw8⟩:∃ w8:World,w8=w5.alloc (.cells #[.int .i64 q.node,.int .i64 q.room,.int .i64 q.kilos,.int .i64 q.service,.int .i64 q.frm,.int .i64 q.by_,.slice q.A q.n q.c] 47):=⟨_,rfl⟩
    obtain ⟨g8,hg8⟩:∃ g,g=w5.heap.size:=⟨_,rfl⟩
    have b8:Below w5.heap.size w5 w8:=by rw [hw8];exact (Below.refl _ _).alloc (Nat.le_refl _) _
    have hL8:w8.heap[g8]? = some (.cells #[.int .i64 q.node,.int .i64 q.room,.int .i64 q.kilos,.int .i64 q.service,.int .i64 q.frm,.int .i64 q.by_,.slice q.A q.n q.c] 47 (0,0)):=by rw [hw8,hg8];exact heap_alloc_new _ _
    have hown8:=own_below hown5 b8
    have hb8:=bel hb5 b8
    have hz8:B≤w8.heap.size:=by rw [hB];exact hb8.size
    obtain ⟨i0,hi0,hy0,hy1,hy2⟩:=info_parts clone120_info
    have hj2:j + (sv ++ [q]).length=i + 1:=by rw [List.length_append,List.length_singleton];omega
    go_wp2_with (first
     | (at_builtin;rw [←hw8,←hg8];refine wp_append_rd rfl _ _ 26 rfl B 47 i0 (.agg #[.int .i64 0,.int .i64 0,.int .i64 0,.int .i64 0,.int .i64 0,.int .i64 0,.slice none 0 0]) 7 72 Tryz.underlying26 hi0 hy0 hy1 hy2 rfl (by decide) _ sv.length (sv.flatMap Q.cells) rfl hown8 (some ⟨g8,0,none⟩) 1 1 (Q.cells q) rfl (Rd.of_block hL8 7 1 rfl) (req_one q) (by simp only [maxLen];omega) (by omega) hz8 ?_;intro v9 w9 hown9 hgr9 ha9)
     | fail)
    have hb9:Below w3.heap.size w3 w9:=below_own2 hb8 hgr9 (fun g e=>by rw [←hB];exact (own_in hown8 g e).1)
    have hown9':w9.ownsRow B 47 7 v9 (sv ++ [q]).length ((sv ++ [q]).flatMap Q.cells):=by
     rw [List.length_append,List.flatMap_append,List.flatMap_singleton]
     exact hown9
    clear hown8 hown9 hgr9 ha9
    go_roundw
    case rel=>(go_light;exact ⟨i + 1,j,sv ++ [q],by go_num,rfl,hlt,hj2,hown9',HSY.out,hb9⟩)
    case measure=>(go_light;simp [intOf];omega)
   ·obtain ⟨bb,hbb,hno,hyes⟩:=hS.no HA.out.symm HSM.out HQ.out HC.out.symm
    rw [show i - sv.length=j by omega] at hbb
    have hjn:j < rn:=by
     have:=(List.getElem?_eq_some_iff.1 hbb).1
     have:=HLN.out
     omega
    have hR5:=hR3.below hb5
    obtain ⟨adR,y,hRA,hy,hyB,cy⟩:=hR5.at_ hjn
    have HY:=Lib.hid (show y.bl.map BV.pr=bb by
     rw [List.getElem?_map,hy] at hbb
     injection hbb)
    have hFB:=(hFR.2 y (List.mem_of_getElem? hy)).1
    have HNO:=Lib.hid hno
    have HYES:=Lib.hid hyes
    have j0:(0:Int)≤(j:Int):=by omega
    have j1:(j:Int) < (rn:Int):=by omega
    have hj2:j + 1 + sv.length=i + 1:=by omega
    obtain ⟨SV,svc,rfl,hRv,-⟩:=own_form hown5
    have q0:=blk_cell hN5 0 _ rfl
    have q1:=blk_cell hN5 1 _ rfl
    have HMK:=Lib.hid (show ∀ w',Below w5.heap.size w5 w'→(fun w':World=>w'.cell? ⟨g,0,none⟩=some (.int .i64 x.nd)∧w'.cell? ⟨g,1,none⟩=some (.slice x.A x.n x.c)∧w'.cell? ⟨g,3,none⟩=some (.slice (some adB) x.m x.d)∧w'.cell? (adR.add j)=some (.slice y.A y.n y.c)∧w'.cell? (adB.add (i * 7))=some (.int .i64 q.node)∧w'.cell? ⟨(adB.add (i * 7)).block,(adB.add (i * 7)).off + 1,none⟩=some (.int .i64 q.room)∧w'.cell? ⟨(adB.add (i * 7)).block,(adB.add (i * 7)).off + 2,none⟩=some (.int .i64 q.kilos)∧w'.cell? ⟨(adB.add (i * 7)).block,(adB.add (i * 7)).off + 3,none⟩=some (.int .i64 q.service)∧w'.cell? ⟨(adB.add (i * 7)).block,(adB.add (i * 7)).off + 4,none⟩=some (.int .i64 q.frm)∧w'.cell? ⟨(adB.add (i * 7)).block,(adB.add (i * 7)).off + 5,none⟩=some (.int .i64 q.by_)∧w'.cell? ⟨(adB.add (i * 7)).block,(adB.add (i * 7)).off + 6,none⟩=some (.slice q.A q.n q.c)) w' from fun w' h =>
     ⟨(h.cell (cell_lt q0)).trans q0,(h.cell (cell_lt q1)).trans q1,(h.cell (cell_lt p3)).trans p3,(h.cell (cell_lt cy)).trans cy,(h.cell (cell_lt c0)).trans c0,(h.cell (cell_lt c1)).trans c1,(h.cell (cell_lt c2)).trans c2,(h.cell (cell_lt c3)).trans c3,(h.cell (cell_lt c4)).trans c4,(h.cell (cell_lt c5)).trans c5,(h.cell (cell_lt c6)).trans c6⟩)
    have hRS5:=hRS3.below hb5
    have HCS:=Lib.hid (show ∀ (w':World) (A:Option Addr) (k:Nat),Below w5.heap.size w5 w'→Rd w' 7 A (sv.length + 1) (sv.flatMap Q.cells ++ q.cells)→CsAt w' ⟨x.nd,x.A,x.n,x.c,x.l,RA2,rn2,rc2,RL,A,sv.length + 1,k,sv ++ [q]⟩ from fun w' A k hb hR =>
     ⟨(hx5.below hb).net,hRS5.below hb,⟨by rw [List.length_append];rfl,by rw [reqCells_flat,List.flatMap_append,List.flatMap_singleton];exact hR,fun p hp=>(hx5.below hb).reqs.2.2 p (hin p hp)⟩,hx.b1,fun s hs=>by have:=hrs s hs;omega,by show rn2≤_;omega,by show sv.length + 1≤_;omega,fun p hp=>hx.b5 p (hin p hp)⟩)
    rw [hRA]
    have HRA:=Lib.hid hRA
    have HHB:=Lib.hid hyB
    clear hRA q0 q1 cy hbb hno hyes hy p3 c0 c1 c2 c3 c4 c5 c6 hyB
    have hWW:Below w5.heap.size w5 w5:=Below.refl _ _
    have Fd:Below w5.heap.size w5 w5.drew:=hWW.drew
    have Fz:Below w5.heap.size w5 (w5.alloc (.cells #[] 47)):=bel_allocK _ _
    have S0:=HMK.out _ hWW
    have S0d:=HMK.out _ Fd
    have S0z:=HMK.out _ Fz
    have S0zd:=HMK.out _ Fz.drew
    obtain ⟨i0,hi,hzz0,hzz1,hzz2⟩:=info_parts clone120_info
    have hone:∀ u ∈ sv.flatMap Q.cells,u.oneCell'=true:=flat_one Q.cells req_one _
    have hone2:∀ u ∈ q.cells,u.oneCell'=true:=req_one q
    have hm63:0 + sv.length≤maxLen:=by simp only [maxLen];omega
    have hm47:(0 + sv.length) * 72≤140737488355328:=by omega
    have hn63:sv.length + 1≤maxLen:=by simp only [maxLen];omega
    have hn47:(sv.length + 1) * 72≤140737488355328:=by omega
    have Cz:∀ g,(Value.slice (some ⟨w5.heap.size,0,none⟩) 0 0).ownBlock=some g→w5.heap.size≤g:=fun g e=>by injection e with e;rw [←e];exact Nat.le_refl _
    have Oa:(w5.alloc (.cells #[] 47)).drew.ownsRow w5.heap.size 47 7 (.slice (some ⟨w5.heap.size,0,none⟩) 0 0) 0 []:=own_lit (heap_alloc_new w5 (.cells #[] 47)) (Nat.le_refl _)
    have Rq:Rd w5 7 (SV) sv.length (sv.flatMap Q.cells):=hRv
    have Ra:=Rq.below Fz.drew
    have Oz:True:=trivial
    have Fx:Below w5.heap.size w5 (w5.alloc (.cells #[.int .i64 q.node,.int .i64 q.room,.int .i64 q.kilos,.int .i64 q.service,.int .i64 q.frm,.int .i64 q.by_,.slice q.A q.n q.c] 47)):=bel_allocK _ _
    have Fzx:Below w5.heap.size w5 ((w5.alloc (.cells #[] 47)).alloc (.cells #[.int .i64 q.node,.int .i64 q.room,.int .i64 q.kilos,.int .i64 q.service,.int .i64 q.frm,.int .i64 q.by_,.slice q.A q.n q.c] 47)):=bel Fz (bel_allocK _ _)
    have Fxz:Below w5.heap.size w5 ((w5.alloc (.cells #[.int .i64 q.node,.int .i64 q.room,.int .i64 q.kilos,.int .i64 q.service,.int .i64 q.frm,.int .i64 q.by_,.slice q.A q.n q.c] 47)).alloc (.cells #[] 47)):=bel Fx (bel_allocK _ _)
    have S0x:=HMK.out _ Fx
    have S0zx:=HMK.out _ Fzx
    have S0xz:=HMK.out _ Fxz
    have S0xd:=HMK.out _ Fx.drew
    have S0zxd:=HMK.out _ Fzx.drew
    have S0xzd:=HMK.out _ Fxz.drew
    have Ob:((w5.alloc (.cells #[] 47)).alloc (.cells #[.int .i64 q.node,.int .i64 q.room,.int .i64 q.kilos,.int .i64 q.service,.int .i64 q.frm,.int .i64 q.by_,.slice q.A q.n q.c] 47)).drew.ownsRow w5.heap.size 47 7 (.slice (some ⟨w5.heap.size,0,none⟩) 0 0) 0 []:=own_lit (blk_alloc (heap_alloc_new w5 (.cells #[] 47)) (.cells #[.int .i64 q.node,.int .i64 q.room,.int .i64 q.kilos,.int .i64 q.service,.int .i64 q.frm,.int .i64 q.by_,.slice q.A q.n q.c] 47)) (Nat.le_refl _)
    have Oc:((w5.alloc (.cells #[.int .i64 q.node,.int .i64 q.room,.int .i64 q.kilos,.int .i64 q.service,.int .i64 q.frm,.int .i64 q.by_,.slice q.A q.n q.c] 47)).alloc (.cells #[] 47)).drew.ownsRow w5.heap.size 47 7 (.slice (some ⟨w5.heap.size + 1,0,none⟩) 0 0) 0 []:=own_lit (heap_alloc_at (w5.alloc (.cells #[.int .i64 q.node,.int .i64 q.room,.int .i64 q.kilos,.int .i64 q.service,.int .i64 q.frm,.int .i64 q.by_,.slice q.A q.n q.c] 47)) (.cells #[] 47) _ (World.size_alloc _ _).symm) (Nat.le_succ _)
    have Xb:((w5.alloc (.cells #[] 47)).alloc (.cells #[.int .i64 q.node,.int .i64 q.room,.int .i64 q.kilos,.int .i64 q.service,.int .i64 q.frm,.int .i64 q.by_,.slice q.A q.n q.c] 47)).drew.heap[w5.heap.size + 1]? = some (.cells #[.int .i64 q.node,.int .i64 q.room,.int .i64 q.kilos,.int .i64 q.service,.int .i64 q.frm,.int .i64 q.by_,.slice q.A q.n q.c] 47 (0,0)):=heap_alloc_at (w5.alloc (.cells #[] 47)) (.cells #[.int .i64 q.node,.int .i64 q.room,.int .i64 q.kilos,.int .i64 q.service,.int .i64 q.frm,.int .i64 q.by_,.slice q.A q.n q.c] 47) _ (World.size_alloc _ _).symm
    have Xc:((w5.alloc (.cells #[.int .i64 q.node,.int .i64 q.room,.int .i64 q.kilos,.int .i64 q.service,.int .i64 q.frm,.int .i64 q.by_,.slice q.A q.n q.c] 47)).alloc (.cells #[] 47)).drew.heap[w5.heap.size]? = some (.cells #[.int .i64 q.node,.int .i64 q.room,.int .i64 q.kilos,.int .i64 q.service,.int .i64 q.frm,.int .i64 q.by_,.slice q.A q.n q.c] 47 (0,0)):=blk_alloc (heap_alloc_new w5 (.cells #[.int .i64 q.node,.int .i64 q.room,.int .i64 q.kilos,.int .i64 q.service,.int .i64 q.frm,.int .i64 q.by_,.slice q.A q.n q.c] 47)) (.cells #[] 47)
    have Rb:=Rq.below Fzx.drew
    have Rc:=Rq.below Fxz.drew
    have hRX:∀ (W:World) (gg:Nat),W.heap[gg]? = some (.cells #[.int .i64 q.node,.int .i64 q.room,.int .i64 q.kilos,.int .i64 q.service,.int .i64 q.frm,.int .i64 q.by_,.slice q.A q.n q.c] 47 (0,0))→Rd W 7 (some ⟨gg,0,none⟩) 1 (q.cells):=fun W gg h=>Rd.of_block h 7 1 rfl
    have HRX:=Lib.hid hRX
    have Cxz:∀ g,(Value.slice (some ⟨w5.heap.size + 1,0,none⟩) 0 0).ownBlock=some g→w5.heap.size≤g:=fun g e=>by injection e with e;rw [←e];exact Nat.le_succ _
    have Nb:some (w5.heap.size + 1) ≠ (Value.slice (some ⟨w5.heap.size,0,none⟩) 0 0).ownBlock:=fun e=>by injection e with e;dsimp only at e;omega
    have Nc:some w5.heap.size ≠ (Value.slice (some ⟨w5.heap.size + 1,0,none⟩) 0 0).ownBlock:=fun e=>by injection e with e;dsimp only at e;omega
    clear hRX
    go_wp2_with fail
    go_region_held3 (fun w':World=>w'.cell? ⟨g,0,none⟩=some (.int .i64 x.nd)∧w'.cell? ⟨g,1,none⟩=some (.slice x.A x.n x.c)∧w'.cell? ⟨g,3,none⟩=some (.slice (some adB) x.m x.d)∧w'.cell? (adR.add j)=some (.slice y.A y.n y.c)∧w'.cell? (adB.add (i * 7))=some (.int .i64 q.node)∧w'.cell? ⟨(adB.add (i * 7)).block,(adB.add (i * 7)).off + 1,none⟩=some (.int .i64 q.room)∧w'.cell? ⟨(adB.add (i * 7)).block,(adB.add (i * 7)).off + 2,none⟩=some (.int .i64 q.kilos)∧w'.cell? ⟨(adB.add (i * 7)).block,(adB.add (i * 7)).off + 3,none⟩=some (.int .i64 q.service)∧w'.cell? ⟨(adB.add (i * 7)).block,(adB.add (i * 7)).off + 4,none⟩=some (.int .i64 q.frm)∧w'.cell? ⟨(adB.add (i * 7)).block,(adB.add (i * 7)).off + 5,none⟩=some (.int .i64 q.by_)∧w'.cell? ⟨(adB.add (i * 7)).block,(adB.add (i * 7)).off + 6,none⟩=some (.slice q.A q.n q.c))
     (first | with_reducible exact S8 | with_reducible exact S7d | with_reducible exact S7s | with_reducible exact S7 | with_reducible exact S6x | with_reducible exact S6 | with_reducible exact S0zxd | with_reducible exact S0xzd | with_reducible exact S0zd | with_reducible exact S0xd | with_reducible exact S0zx | with_reducible exact S0xz | with_reducible exact S0z | with_reducible exact S0x | with_reducible exact S0d | with_reducible exact S0 | fail)
     (first
      | (go_at_call 29;refine (rrefutes29_any ⟨x.nd,x.A,x.n,x.c,x.l,RA2,rn2,rc2,RL,A7,sv.length + 1,k7,sv ++ [q]⟩ y.A y.n y.c y.bl _ hCs hB7 hFB).mono ?_;rintro e w8 ⟨rfl,b8⟩;have S8:=HMK.out _ (bel b7r b8))
      | (have h0:=Oz;clear Oz;apply step_append_rd (hgd:=rfl) (s:=.tmp 64) (x:=.tmp 65) (t:=26) (ho:=rfl) (base:=w5.heap.size) (e:=47) (i:=i0) (z:=(.agg #[.int .i64 0,.int .i64 0,.int .i64 0,.int .i64 0,.int .i64 0,.int .i64 0,.slice none 0 0])) (size:=7) (bytes:=72) (ht:=Tryz.underlying26) (hi:=hi) (hz:=hzz0) (hsize:=hzz1) (hby:=hzz2) (hzs:=rfl) (hsz:=by decide) (v:=.slice (some ⟨_,0,none⟩) 0 0) (n:=0) (xs:=[]) (hs:=rfl) (A:=SV) (m:=sv.length) (c:=svc) (news:=sv.flatMap Q.cells) (hx:=rfl) (h1:=hone) (h63:=hm63) (hbytes:=hm47);(first | with_reducible exact Oa | with_reducible exact Ob | with_reducible exact Oc | fail);(first | with_reducible exact Ra | with_reducible exact Rb | with_reducible exact Rc | fail);(first | with_reducible exact Fz.drew.size | with_reducible exact Fzx.drew.size | with_reducible exact Fxz.drew.size | fail);intro v6 w6 hown6 hgr6 hat6;(first | (have b6r:Below w5.heap.size w5 w6:=by with_reducible exact below_own2 Fz.drew hgr6 Cz) | (have b6r:Below w5.heap.size w5 w6:=by with_reducible exact below_own2 Fzx.drew hgr6 Cz) | (have b6r:Below w5.heap.size w5 w6:=by with_reducible exact below_own2 Fxz.drew hgr6 Cxz) | fail);(first | (with_reducible (have hL:=grow_blk hgr6 Xb Nb)) | (with_reducible (have hL:=grow_blk hgr6 Xc Nc)) | skip);have S6:=HMK.out _ b6r;have F6x:Below w6.heap.size w6 (w6.alloc (.cells #[.int .i64 q.node,.int .i64 q.room,.int .i64 q.kilos,.int .i64 q.service,.int .i64 q.frm,.int .i64 q.by_,.slice q.A q.n q.c] 47)):=bel_allocK _ _;have S6x:=HMK.out _ (bel b6r F6x);rw [Nat.zero_add,List.nil_append] at hown6)
      | (have h9:=hown6;clear hown6;apply step_append_rd (hgd:=rfl) (s:=.tmp 66) (x:=.tmp 72) (t:=26) (ho:=rfl) (base:=w5.heap.size) (e:=47) (i:=i0) (z:=(.agg #[.int .i64 0,.int .i64 0,.int .i64 0,.int .i64 0,.int .i64 0,.int .i64 0,.slice none 0 0])) (size:=7) (bytes:=72) (ht:=Tryz.underlying26) (hi:=hi) (hz:=hzz0) (hsize:=hzz1) (hby:=hzz2) (hzs:=rfl) (hsz:=by decide) (v:=v6) (n:=sv.length) (xs:=sv.flatMap Q.cells) (hs:=rfl) (A:=some ⟨_,0,none⟩) (m:=1) (c:=1) (news:=q.cells) (hx:=rfl) (h1:=hone2) (h63:=hn63) (hbytes:=hn47);rotate_right 1;(first | with_reducible exact h9 | with_reducible exact own_below h9 F6x | fail);(first | with_reducible exact HRX.out _ _ hL | with_reducible exact HRX.out _ _ (heap_alloc_new w6 _) | fail);(first | with_reducible exact b6r.size | with_reducible exact Nat.le_trans b6r.size F6x.size | fail);intro v7 w7 hown7 hgr7 hat7;obtain ⟨A7,k7,rfl,hRd7,hF7⟩:=own_form hown7;(first | (have b7r:Below w5.heap.size w5 w7:=by with_reducible exact below_own2 b6r hgr7 (fun g e=>(h9.lt g e).1)) | (have b7r:Below w5.heap.size w5 w7:=by with_reducible exact below_own2 (bel b6r F6x) hgr7 (fun g e=>(h9.lt g e).1)) | fail);have S7:=HMK.out _ b7r;have S7d:=HMK.out _ b7r.drew;have hCs:=HCS.out _ A7 k7 b7r hRd7;have hB7:=HHB.out.below b7r)
      | fail)
    all_goals
     rw [show K.refutes (Cs.nd ⟨x.nd,x.A,x.n,x.c,x.l,RA2,rn2,rc2,RL,A7,sv.length + 1,k7,sv ++ [q]⟩) (Cs.l ⟨x.nd,x.A,x.n,x.c,x.l,RA2,rn2,rc2,RL,A7,sv.length + 1,k7,sv ++ [q]⟩) (Cs.ss ⟨x.nd,x.A,x.n,x.c,x.l,RA2,rn2,rc2,RL,A7,sv.length + 1,k7,sv ++ [q]⟩) (Cs.r ⟨x.nd,x.A,x.n,x.c,x.l,RA2,rn2,rc2,RL,A7,sv.length + 1,k7,sv ++ [q]⟩) (y.bl.map BV.pr)=K.refutes x.nd x.l R (sv ++ [q]) bb by rw [HY.out];exact K.refutes_same rfl HRB.out _]
     obtain ⟨z,hz⟩:∃ z,z=K.refutes x.nd x.l R (sv ++ [q]) bb:=⟨_,rfl⟩
     rw [←hz]
     have HRZ:=Lib.hid hz
     have b58:=bel b7r b8
     have hb8:=bel hb5 b58
     have hown8:=own_below hown (bel b5 b58)
     clear hz
     cases z
     ·have HX:=Lib.hid (HNO.out HRZ.out.symm)
      go_wp2_with fail
      go_ret
      exact ⟨by rw [HX.out];rfl,bel hb3 hb8⟩
     ·have HSY:=Lib.hid (HYES.out HRZ.out.symm)
      go_wp2_with fail
      rw [←HRA.out]
      go_roundw
      case rel=>(go_light;exact ⟨i + 1,j + 1,sv,by go_num,by go_num,hlt,hj2,hown8,HSY.out,hb8⟩)
      case measure=>(go_light;simp [intOf];omega)
  ·have hd:decide ((i:Int) < (x.m:Int))=false:=by simp;omega
   have hd2:decide (i < x.m)=false:=by simp;omega
   have HI:Hid (i=x.r.length):=Lib.hid (by rw [←HRN.out];omega)
   obtain ⟨SB,cB,rfl,hCs⟩:=cs_snoc (rc:=rc2) hxr (hRS3.below hbr) hrn hrs rfl hown hS.inr (by omega)
   have CC:=rchecks27_any ⟨x.nd,x.A,x.n,x.c,x.l,RA2,rn2,rc2,RL,SB,sv.length,cB,sv⟩ TA tn tc ts wr hCs (hT3.below hbr) hFT hyc
   rw [show K.checks (Cs.nd ⟨x.nd,x.A,x.n,x.c,x.l,RA2,rn2,rc2,RL,SB,sv.length,cB,sv⟩) (Cs.l ⟨x.nd,x.A,x.n,x.c,x.l,RA2,rn2,rc2,RL,SB,sv.length,cB,sv⟩) (Cs.ss ⟨x.nd,x.A,x.n,x.c,x.l,RA2,rn2,rc2,RL,SB,sv.length,cB,sv⟩) (Cs.r ⟨x.nd,x.A,x.n,x.c,x.l,RA2,rn2,rc2,RL,SB,sv.length,cB,sv⟩) (ts.map TV.pr)=K.checks x.nd x.l R sv (ts.map TV.pr) from K.checks_same rfl HRB.out _] at CC
   obtain ⟨ce,hce⟩:∃ ce,ce=K.checks x.nd x.l R sv (ts.map TV.pr):=⟨_,rfl⟩
   rw [←hce] at CC
   have HV:=Lib.hid (show Z=(ce == 0) by
    rw [hS.val,HI.out,List.drop_length,hce]
    rfl)
   have p0:=blk_cell hNr 0 _ rfl
   have p1:=blk_cell hNr 1 _ rfl
   clear hce
   go_wp2_with fail
   refine CC.mono ?_
   rintro e w9 ⟨rfl,b9⟩
   go_wp2_with fail
   go_ret
   exact ⟨by rw [HV.out];rfl,bel hb3 (bel hbr b9)⟩
namespace K
section
variable {nd : Int} {l : List Ro} {ss ss' : List S} {r : List Q} {lost : List Int}
theorem restGo_bare:∀ (ss:List S) (i:Nat),(restGo lost i ss).map S.bare=restGo lost i (ss.map S.bare)
 | [],_=>rfl
 | s :: ss,i=>by
  rw [restGo,List.map_cons,restGo]
  split
  ·exact restGo_bare ss (i + 1)
  ·rw [List.map_cons,restGo_bare ss (i + 1)]
theorem keepGo_same (g:ss'.map S.bare=ss.map S.bare):∀ (r:List Q) (i:Nat) (k:Kp),keepGo nd l ss' i r k=keepGo nd l ss i r k
 | [],_,_=>rfl
 | x :: r,i,k=>by
  have h1:keepStep nd l ss' i x k=keepStep nd l ss i x k:=by
   unfold keepStep keepYes
   rw [plan_same (r':=k.served ++ [x]) rfl g,refute_same (r':=k.served ++ [x]) rfl g]
  rw [keepGo,keepGo,h1,keepGo_same g r]
theorem restE_same (g:ss'.map S.bare=ss.map S.bare):restE nd l ss' r lost=restE nd l ss r lost:=by
 have h1:ss'.length=ss.length:=by rw [←List.length_map (f:=S.bare),g,List.length_map]
 unfold restE
 rw [h1,←pcheck_bare (ss:=ss'),←pcheck_bare (ss:=ss),g]
theorem keep34_same (g:ss'.map S.bare=ss.map S.bare):keep34 nd l ss' r lost=keep34 nd l ss r lost:=by
 unfold keep34
 rw [restE_same g,keepGo_same (ss':=restGo lost 0 ss') (ss:=restGo lost 0 ss) (by rw [restGo_bare,restGo_bare,g])]
theorem keep34_0 (h:restE nd l ss r lost=0):(keep34 nd l ss r lost).2=0:=by unfold keep34;rw [if_pos h]
end
end K
set_option maxRecDepth 100000 in
set_option maxHeartbeats 8000000 in
theorem keeps106_any (LA:Option Addr) (ln lc:Nat) (lost:List Int) (WA:Option Addr) (wn wc:Nat) (want:List Int) (w:World) (hL:Ints w LA ln lost) (hW:Ints w WA wn want) (hln:ln≤1000000000) (hwn:wn≤1000000000)
  (h0:∀ A1 c1 A2 c2,K.restE 2 K.exL32 (K.ss34 A1 c1 A2 c2) K.qs34 lost=0∧(K.keep34 2 K.exL32 (K.ss34 A1 c1 A2 c2) K.qs34 lost).1.kept=want) :
  Calls Tryz.prog 106 #[.slice LA ln lc,.slice WA wn wc] w fun e w'=>e=.returned (.bool true)∧Below w.heap.size w w':=by
 go_enter Tryz.func106,Tryz.ntmps106
 go_wp2_with fail
 refine (example105_any w).mono ?_
 rintro e w1 ⟨⟨x,hE,hx,rfl⟩,b1⟩
 obtain ⟨A,c,A1,c1,A2,c2,SA,sc,B,d,rfl⟩:=hE
 have CK:=keep47_any ⟨2,A,2,c,K.exL32,SA,2,sc,[K.exS34 A1 c1 5,K.exS34 A2 c2 2],B,3,d,[K.exQ32 4,K.exQ32 2,K.exQ32 1]⟩ LA ln lc lost w1 hx (hL.below b1) hln (by decide:(2:Nat)≤1000000) (fun s hs=>by
  rcases List.mem_cons.1 hs with rfl | hs
  ·exact (by decide:(1:Nat)≤1000000)
  ·rw [List.mem_singleton.1 hs];exact (by decide:(1:Nat)≤1000000))
 obtain ⟨kk,hkk⟩:∃ kk,kk=K.keep34 2 K.exL32 (K.ss34 A1 c1 A2 c2) K.qs34 lost:=⟨_,rfl⟩
 change Calls Tryz.prog 47 _ w1 fun e w'=>RetKeep w1 w' (K.keep34 2 K.exL32 (K.ss34 A1 c1 A2 c2) K.qs34 lost).1 (K.keep34 2 K.exL32 (K.ss34 A1 c1 A2 c2) K.qs34 lost).2 e at CK
 rw [K.keep34_0 (h0 A1 c1 A2 c2).1,←hkk] at CK
 have hkw:kk.1.kept=want:=by rw [hkk];exact (h0 A1 c1 A2 c2).2
 have HKK:=Lib.hid hkk
 clear hkk
 go_wp2_with fail
 refine CK.mono ?_
 rintro e w2 ⟨⟨KA,kn,kc,RA,rn,rc,dd,rfl,hK,hT,hcap,hFT,hts,hR,hFR,hrs⟩,b2⟩
 have hb2:=bel b1 b2
 have hkn:kn≤1000000000:=by rw [hK.1,hkw,←hW.1];exact hwn
 have CS:=sameInts28_any KA WA kn wn kc wc kk.1.kept want w2 hK (hW.below hb2) hkn hwn
 rw [hkw,decide_eq_true rfl] at CS
 clear CK b1
 go_wp2_with fail
 refine CS.mono ?_
 rintro e w3 ⟨rfl,b3⟩
 have hb3:=bel hb2 b3
 clear CS
 go_wp2_with fail
 refine (example105_any w3).mono ?_
 rintro e w4 ⟨⟨x',hE',hx',rfl⟩,b4⟩
 obtain ⟨A',c',A1',c1',A2',c2',SA',sc',B',d',rfl⟩:=hE'
 have b24:=bel b3 b4
 have hb4:=bel hb3 b4
 have CC:=rcheck53_any ⟨2,A',2,c',K.exL32,SA',2,sc',[K.exS34 A1' c1' 5,K.exS34 A2' c2' 2],B',3,d',[K.exQ32 4,K.exQ32 2,K.exQ32 1]⟩ LA ln lc lost KA kn kc kk.1.kept dd.TA dd.tn dd.tc dd.ts RA rn rc dd.L w4 hx' (hL.below hb4) (hK.below b24) (hT.below b24) (hR.below b24) hln hkn hFT hcap.2 hFR (by decide:(2:Nat)≤1000000) (fun s hs=>by
  rcases List.mem_cons.1 hs with rfl | hs
  ·exact (by decide:(1:Nat)≤1000000)
  ·rw [List.mem_singleton.1 hs];exact (by decide:(1:Nat)≤1000000))
 have hck:K.kcheck 2 K.exL32 (K.ss34 A1' c1' A2' c2') K.qs34 lost kk.1.kept (dd.ts.map TV.pr) (dd.L.map RV.pr)=true:=by
  rw [hts,hrs,HKK.out,K.keep34_same (ss':=K.ss34 A1 c1 A2 c2) (ss:=K.ss34 A1' c1' A2' c2') rfl]
  exact K.keep_check (by decide:(2:Nat)≤4) (by decide:(3:Nat)≤4) (h0 A1' c1' A2' c2').1
 change Calls Tryz.prog 53 _ w4 fun e w'=>e=.returned (.bool (K.kcheck 2 K.exL32 (K.ss34 A1' c1' A2' c2') K.qs34 lost kk.1.kept (dd.ts.map TV.pr) (dd.L.map RV.pr)))∧Below w4.heap.size w4 w' at CC
 rw [hck] at CC
 go_wp2_with fail
 refine CC.mono ?_
 rintro e w5 ⟨rfl,b5⟩
 go_wp2_with fail
 go_ret
 exact ⟨rfl,bel hb4 b5⟩
theorem sh_small {A1 A2:Option Addr} {c1 c2:Nat}:∀ s ∈ [K.exS34 A1 c1 5,K.exS34 A2 c2 2],s.n≤1000000:=fun s hs=>by
 rcases List.mem_cons.1 hs with rfl | hs
 ·exact (by decide:(1:Nat)≤1000000)
 ·rw [List.mem_singleton.1 hs];exact (by decide:(1:Nat)≤1000000)
set_option maxRecDepth 100000 in
set_option maxHeartbeats 16000000 in
theorem sane42_any (w:World):Calls Tryz.prog 42 #[] w fun e w'=>e=.returned (.bool true)∧Below w.heap.size w w':=by
 go_enter Tryz.func42,Tryz.ntmps42
 go_wp2_with fail
 refine (example105_any w).mono ?_
 rintro e w1 ⟨⟨x,hE,hx1,rfl⟩,b1⟩
 obtain ⟨A1,c1,E1,k1,F1,m1,SA1,sc1,B1,d1,rfl⟩:=hE
 have CK:=keep47_any ⟨2,A1,2,c1,K.exL32,SA1,2,sc1,[K.exS34 E1 k1 5,K.exS34 F1 m1 2],B1,3,d1,[K.exQ32 4,K.exQ32 2,K.exQ32 1]⟩ none 0 0 [] w1 hx1 (ints_nil _) (by decide) (by decide:(2:Nat)≤1000000) sh_small
 have hE0:=K.k34_0 E1 k1 F1 m1
 obtain ⟨kk,hkk⟩:∃ kk,kk=K.keep34 2 K.exL32 (K.ss34 E1 k1 F1 m1) K.qs34 []:=⟨_,rfl⟩
 change Calls Tryz.prog 47 _ w1 fun e w'=>RetKeep w1 w' (K.keep34 2 K.exL32 (K.ss34 E1 k1 F1 m1) K.qs34 []).1 (K.keep34 2 K.exL32 (K.ss34 E1 k1 F1 m1) K.qs34 []).2 e at CK
 rw [←hkk] at hE0 CK
 obtain ⟨g0,g1,g2,g3,g4⟩:=hE0
 rw [g4] at CK
 have HKK:=Lib.hid hkk
 clear hkk g4
 go_wp2_with fail
 refine CK.mono ?_
 rintro e w2 ⟨⟨KA,kn,kc,RA,rn,rc,dd,rfl,hK,hT,hcap,hFT,hts,hR,hFR,hrs⟩,b2⟩
 obtain ⟨dk,L,TA,tn,tc,ts,dSA,dsn,dsc,dsv⟩:=dd
 dsimp only at hT hcap hFT hts hR hFR hrs ⊢
 have hb2:=bel b1 b2
 have hends:ts.map (fun y=>y.t.end_)=[30,25]:=by rw [←g2,←hts,List.map_map];rfl
 obtain rfl:kn=3:=by have h:=hK.1;rw [g1] at h;exact h
 obtain rfl:tn=2:=by
  have h1:=hT.1.1
  have h2:=congrArg List.length hends
  rw [List.length_map] at h2
  exact h1.trans h2
 obtain rfl:rn=0:=by
  have h1:=hR.1.1
  have h2:=congrArg List.length hrs
  rw [List.length_map,g3] at h2
  exact h1.trans h2
 have HEN:=Lib.hid hends
 have HG1:=Lib.hid g1
 have HTS:=Lib.hid hts
 have HRS:=Lib.hid hrs
 clear CK g0 g1 g2 g3 hends hts hrs b1 b2
 go_wp2_with fail
 refine (example105_any w2).mono ?_
 rintro e w3 ⟨⟨x,hE,hx2,rfl⟩,b3⟩
 obtain ⟨A2,c2,E2,k2,F2,m2,SA2,sc2,B2,d2,rfl⟩:=hE
 have CR:=rest45_any ⟨2,A2,2,c2,K.exL32,SA2,2,sc2,[K.exS34 E2 k2 5,K.exS34 F2 m2 2],B2,3,d2,[K.exQ32 4,K.exQ32 2,K.exQ32 1]⟩ (some ⟨w3.heap.size,0,none⟩) 2 2 [1,0] (w3.alloc (.cells #[.int .i64 1,.int .i64 0] 3)) (hx2.below ((Below.refl _ _).alloc (Nat.le_refl _) _)) (ints_lit w3 [1,0]) (by decide) (by decide:(2:Nat)≤1000000) sh_small
 change Calls Tryz.prog 45 _ (w3.alloc (.cells #[.int .i64 1,.int .i64 0] 3)) fun e w'=>RetRest (w3.alloc (.cells #[.int .i64 1,.int .i64 0] 3)) w' (K.rest34 2 K.exL32 (K.ss34 E2 k2 F2 m2) K.qs34 [1,0]) (K.restE 2 K.exL32 (K.ss34 E2 k2 F2 m2) K.qs34 [1,0]) e at CR
 rw [K.k34_4] at CR
 have bl3:Below w3.heap.size w3 (w3.alloc (.cells #[.int .i64 1,.int .i64 0] 3)):=(Below.refl _ _).alloc (Nat.le_refl _) _
 go_wp2_with fail
 refine CR.mono ?_
 rintro e w4 ⟨⟨PA,pn,pc,PL,rfl,-,-⟩,b4⟩
 have b24:=bel b3 (bel bl3 b4)
 clear CR bl3 b3 b4
 go_wp2_with fail
 refine (example105_any w4).mono ?_
 rintro e w5 ⟨⟨x,hE,hx3,rfl⟩,b5⟩
 obtain ⟨A3,c3,E3,k3,F3,m3,SA3,sc3,B3,d3,rfl⟩:=hE
 have CR:=rest45_any ⟨2,A3,2,c3,K.exL32,SA3,2,sc3,[K.exS34 E3 k3 5,K.exS34 F3 m3 2],B3,3,d3,[K.exQ32 4,K.exQ32 2,K.exQ32 1]⟩ (some ⟨w5.heap.size,0,none⟩) 1 1 [0] (w5.alloc (.cells #[.int .i64 0] 3)) (hx3.below ((Below.refl _ _).alloc (Nat.le_refl _) _)) (ints_lit w5 [0]) (by decide) (by decide:(2:Nat)≤1000000) sh_small
 change Calls Tryz.prog 45 _ (w5.alloc (.cells #[.int .i64 0] 3)) fun e w'=>RetRest (w5.alloc (.cells #[.int .i64 0] 3)) w' (K.rest34 2 K.exL32 (K.ss34 E3 k3 F3 m3) K.qs34 [0]) (K.restE 2 K.exL32 (K.ss34 E3 k3 F3 m3) K.qs34 [0]) e at CR
 rw [(K.k34_2 E3 k3 F3 m3).1,K.k34_5] at CR
 have bl5:Below w5.heap.size w5 (w5.alloc (.cells #[.int .i64 0] 3)):=(Below.refl _ _).alloc (Nat.le_refl _) _
 go_wp2_with fail
 refine CR.mono ?_
 rintro e w6 ⟨⟨QA,qn,qc,QL,rfl,hQ,hQb⟩,b6⟩
 have b26:=bel b24 (bel b5 (bel bl5 b6))
 obtain rfl:qn=1:=by
  have h1:=hQ.1.1
  have h2:=congrArg List.length hQb
  rw [List.length_map] at h2
  exact h1.trans h2
 clear CR bl5 b5 b6 b24
 have hT6:=hT.below b26
 obtain ⟨ta,y0,hTA,hy0,-,-,-,-,t3⟩:=hT6.at_ (k:=0) (by decide)
 obtain ⟨ta',y1,hTA',hy1,-,-,-,-,u3⟩:=hT6.at_ (k:=1) (by decide)
 obtain rfl:ta'=ta:=by rw [hTA] at hTA';injection hTA' with h;exact h.symm
 have e30:y0.t.end_=30:=by
  have h:=congrArg (fun l=>l[0]?) HEN.out
  rw [List.getElem?_map,hy0] at h
  injection h
 have e25:y1.t.end_=25:=by
  have h:=congrArg (fun l=>l[1]?) HEN.out
  rw [List.getElem?_map,hy1] at h
  injection h
 rw [e30] at t3
 rw [e25] at u3
 obtain ⟨qa,s0,hQA,hs0,hI,-,-,-,-,-,q5⟩:=hQ.at_ (k:=0) (by decide)
 have hsl:s0.l=[2]:=by
  have h:=congrArg (fun l=>l[0]?) hQb
  rw [List.getElem?_map,hs0] at h
  injection h with h
  have h2:s0.bare.l=(K.exS34 F3 m3 2).bare.l:=by rw [h]
  exact h2
 have hsn:s0.n=1:=by rw [hI.1,hsl];rfl
 rw [hsl,hsn] at hI
 rw [hsn] at q5
 obtain ⟨ra,z0,hRA,hz0,r0⟩:=hI.at_ (k:=0) (by decide)
 obtain rfl:z0=2:=by injection hz0 with h;exact h.symm
 rw [hRA] at q5
 have f0:w6.cell? ⟨ta'.block,ta'.off + 3,none⟩=some (.int .i64 30):=t3
 have f1:w6.cell? ⟨ta'.block,ta'.off + 4 + 3,none⟩=some (.int .i64 25):=u3
 have f2:w6.cell? ⟨ta'.block,ta'.off + 7,none⟩=some (.int .i64 25):=u3
 have f3:w6.cell? ⟨qa.block,qa.off + 5,none⟩=some (.slice (some ra) 1 s0.c):=q5
 have f4:w6.cell? ra=some (.int .i64 2):=r0
 clear t3 u3 q5 r0 hI hz0 hsl hsn hs0 e30 e25 hy0 hy1 hQ hQb hRA hT6
 rw [hTA,hQA]
 have HTA:=Lib.hid hTA
 clear hTA hTA' hQA
 go_wp2_with fail
 clear f0 f1 f2 f3 f4
 have i1:Ints (w6.alloc (.cells #[.int .i64 1] 3)) (some ⟨w6.heap.size,0,none⟩) 1 [1]:=ints_lit w6 [1]
 have bx:Below (w6.alloc (.cells #[.int .i64 1] 3)).heap.size (w6.alloc (.cells #[.int .i64 1] 3)) ((w6.alloc (.cells #[.int .i64 1] 3)).alloc (.cells #[.int .i64 0,.int .i64 2] 3)):=(Below.refl _ _).alloc (Nat.le_refl _) _
 have i2:Ints ((w6.alloc (.cells #[.int .i64 1] 3)).alloc (.cells #[.int .i64 0,.int .i64 2] 3)) (some ⟨w6.heap.size + 1,0,none⟩) 2 [0,2]:=by
  have h:=ints_lit (w6.alloc (.cells #[.int .i64 1] 3)) [0,2]
  rw [World.size_alloc] at h
  exact h
 have bl:Below w6.heap.size w6 ((w6.alloc (.cells #[.int .i64 1] 3)).alloc (.cells #[.int .i64 0,.int .i64 2] 3)):=bel ((Below.refl _ _).alloc (Nat.le_refl _) _) bx
 have CK:=keeps106_any (some ⟨w6.heap.size,0,none⟩) 1 1 [1] (some ⟨w6.heap.size + 1,0,none⟩) 2 2 [0,2] ((w6.alloc (.cells #[.int .i64 1] 3)).alloc (.cells #[.int .i64 0,.int .i64 2] 3)) (i1.below bx) i2 (by decide) (by decide) K.k34_1
 go_wp2_with fail
 refine CK.mono ?_
 rintro e v1 ⟨rfl,b1⟩
 have b1:=bel bl b1
 clear i1 bx i2 bl CK
 go_wp2_with fail
 have i1:Ints (v1.alloc (.cells #[.int .i64 0] 3)) (some ⟨v1.heap.size,0,none⟩) 1 [0]:=ints_lit v1 [0]
 have bx:Below (v1.alloc (.cells #[.int .i64 0] 3)).heap.size (v1.alloc (.cells #[.int .i64 0] 3)) ((v1.alloc (.cells #[.int .i64 0] 3)).alloc (.cells #[.int .i64 1] 3)):=(Below.refl _ _).alloc (Nat.le_refl _) _
 have i2:Ints ((v1.alloc (.cells #[.int .i64 0] 3)).alloc (.cells #[.int .i64 1] 3)) (some ⟨v1.heap.size + 1,0,none⟩) 1 [1]:=by
  have h:=ints_lit (v1.alloc (.cells #[.int .i64 0] 3)) [1]
  rw [World.size_alloc] at h
  exact h
 have bl:Below v1.heap.size v1 ((v1.alloc (.cells #[.int .i64 0] 3)).alloc (.cells #[.int .i64 1] 3)):=bel ((Below.refl _ _).alloc (Nat.le_refl _) _) bx
 have CK:=keeps106_any (some ⟨v1.heap.size,0,none⟩) 1 1 [0] (some ⟨v1.heap.size + 1,0,none⟩) 1 1 [1] ((v1.alloc (.cells #[.int .i64 0] 3)).alloc (.cells #[.int .i64 1] 3)) (i1.below bx) i2 (by decide) (by decide) K.k34_2
 go_wp2_with fail
 refine CK.mono ?_
 rintro e v2 ⟨rfl,b2⟩
 have b2:=bel bl b2
 clear i1 bx i2 bl CK
 go_wp2_with fail
 have i1:Ints (v2.alloc (.cells #[.int .i64 0,.int .i64 1] 3)) (some ⟨v2.heap.size,0,none⟩) 2 [0,1]:=ints_lit v2 [0,1]
 have bl:Below v2.heap.size v2 (v2.alloc (.cells #[.int .i64 0,.int .i64 1] 3)):=(Below.refl _ _).alloc (Nat.le_refl _) _
 have CK:=keeps106_any (some ⟨v2.heap.size,0,none⟩) 2 2 [0,1] none 0 0 [] (v2.alloc (.cells #[.int .i64 0,.int .i64 1] 3)) i1 (ints_nil _) (by decide) (by decide) K.k34_3
 go_wp2_with fail
 refine CK.mono ?_
 rintro e v3 ⟨rfl,b3⟩
 have b3:=bel bl b3
 clear i1 bl CK
 go_wp2_with fail
 refine (example105_any v3).mono ?_
 rintro e v4 ⟨⟨x,hE,hx4,rfl⟩,b7⟩
 obtain ⟨A4,c4,E4,k4,F4,m4,SA4,sc4,B4,d4,rfl⟩:=hE
 have b37:=bel b26 (bel b1 (bel b2 (bel b3 b7)))
 have CC:=check52_any ⟨2,A4,2,c4,K.exL32,SA4,2,sc4,[K.exS34 E4 k4 5,K.exS34 F4 m4 2],B4,3,d4,[K.exQ32 4,K.exQ32 2,K.exQ32 1]⟩ none 0 0 [] KA 3 kc kk.1.kept TA 2 tc ts RA 0 rc L v4 hx4 (ints_nil _) (hK.below b37) (hT.below b37) (hR.below b37) (by decide) (by decide) hFT hFR (by decide:(2:Nat)≤1000000) sh_small
 have hck:K.kcheck 2 K.exL32 (K.ss34 E4 k4 F4 m4) K.qs34 [] kk.1.kept (ts.map TV.pr) (L.map RV.pr)=true:=by
  rw [HTS.out,HRS.out,HKK.out,K.keep34_same (ss':=(K.ss34 E1 k1 F1 m1)) (ss:=(K.ss34 E4 k4 F4 m4)) rfl]
  exact K.keep_check (by decide:(2:Nat)≤4) (by decide:(3:Nat)≤4) (K.k34_0 E4 k4 F4 m4).1
 change Calls Tryz.prog 52 _ v4 fun e w'=>e=.returned (.bool (K.kcheck 2 K.exL32 (K.ss34 E4 k4 F4 m4) K.qs34 [] kk.1.kept (ts.map TV.pr) (L.map RV.pr)))∧Below v4.heap.size v4 w' at CC
 rw [hck,HTA.out] at CC
 go_wp2_with fail
 refine CC.mono ?_
 rintro e v5 ⟨rfl,b8⟩
 go_wp2_with fail
 go_ret
 exact ⟨rfl,bel hb2 (bel b37 b8)⟩
set_option maxRecDepth 100000 in
set_option maxHeartbeats 8000000 in
theorem rfew43_any (x:Cs) (LA:Option Addr) (ln lc:Nat) (w:World) (hS:Shifts w x.SA x.sn x.ss) (hQ:Reqs w x.B x.m x.r) :
  Calls Tryz.prog 43 #[.agg #[.int .i64 x.nd,.slice x.A x.n x.c,.slice x.SA x.sn x.sc,.slice x.B x.m x.d],.slice LA ln lc] w fun e w'=>(∃ z,e=.returned (.bool z)∧(z=true→K.few32 x=true∧ln≤10))∧Below w.heap.size w w':=by
 obtain ⟨w1,hw1⟩:∃ w1:World,w1=w.alloc (.cells #[.int .i64 x.nd,.slice x.A x.n x.c,.slice x.SA x.sn x.sc,.slice x.B x.m x.d] 44):=⟨_,rfl⟩
 obtain ⟨g,hg⟩:∃ g,g=w.heap.size:=⟨_,rfl⟩
 have b1:Below w.heap.size w w1:=by rw [hw1];exact (Below.refl _ _).alloc (Nat.le_refl _) _
 have hN1:BkBlk w1 g x:=by rw [hw1,hg];exact BkBlk.new _ _
 have p0:=blk_cell hN1 0 _ rfl
 have p1:=blk_cell hN1 1 _ rfl
 have p2:=blk_cell hN1 2 _ rfl
 have p3:=blk_cell hN1 3 _ rfl
 have CF:=few9_any x w1 (hS.below b1) (hQ.below b1)
 obtain ⟨z,hz⟩:∃ z,z=K.few32 x:=⟨_,rfl⟩
 rw [←hz] at CF
 have HZ:=Lib.hid hz
 clear hz
 go_enter Tryz.func43,Tryz.ntmps43
 go_upto_region 1 with fail
 rw [←hw1,←hg]
 clear hw1 hg
 go_wp2_with fail
 refine CF.mono ?_
 rintro e w2 ⟨rfl,b2⟩
 cases z
 ·go_wp2_with fail
  go_ret
  exact ⟨⟨false,rfl,fun h=>(by cases h)⟩,bel b1 b2⟩
 ·by_cases h10:ln≤10
  ·have d1:decide ((ln:Int)≤10)=true:=by simp;omega
   have d2:decide (ln≤10)=true:=by simp;omega
   have H10:=Lib.hid h10
   clear h10
   go_wp2_with fail
   go_ret
   exact ⟨⟨true,rfl,fun _=>⟨HZ.out.symm,H10.out⟩⟩,bel b1 b2⟩
  ·have d1:decide ((ln:Int)≤10)=false:=by simp;omega
   have d2:decide (ln≤10)=false:=by simp;omega
   clear h10
   go_wp2_with fail
   go_ret
   exact ⟨⟨false,rfl,fun h=>(by cases h)⟩,bel b1 b2⟩
def K.chosen34 (r:List Q) (l:List Int) (more:Int):List Q:=l.map (K.req r) ++ if more < 0 then [] else [K.req r more]
set_option maxRecDepth 100000 in
set_option maxHeartbeats 16000000 in
theorem chosen54_any (x:Cs) (LA:Option Addr) (ln lc:Nat) (l:List Int) (more:Int) (w:World) (hQ:Reqs w x.B x.m x.r) (hL:Ints w LA ln l) (hln:ln≤1000) (hin:∀ j ∈ l,0≤j∧j < (x.m:Int)) (hmo:more=-1∨∃ k:Nat,more=(k:Int)∧k < x.m) :
  Calls Tryz.prog 54 #[.agg #[.int .i64 x.nd,.slice x.A x.n x.c,.slice x.SA x.sn x.sc,.slice x.B x.m x.d],.slice LA ln lc,.int .i64 more] w fun e w'=>(∃ v,e=.returned v∧w'.ownsRow w.heap.size 47 7 v (K.chosen34 x.r l more).length ((K.chosen34 x.r l more).flatMap Q.cells))∧Below w.heap.size w w':=by
 obtain ⟨w1,hw1⟩:∃ w1:World,w1=w.alloc (.cells #[.int .i64 x.nd,.slice x.A x.n x.c,.slice x.SA x.sn x.sc,.slice x.B x.m x.d] 44):=⟨_,rfl⟩
 obtain ⟨g,hg⟩:∃ g,g=w.heap.size:=⟨_,rfl⟩
 have b1:Below w.heap.size w w1:=by rw [hw1];exact (Below.refl _ _).alloc (Nat.le_refl _) _
 have hN1:BkBlk w1 g x:=by rw [hw1,hg];exact BkBlk.new _ _
 obtain ⟨w2,hw2⟩:∃ w2:World,w2=w1.alloc (.cells #[] 47):=⟨_,rfl⟩
 obtain ⟨g2,hg2⟩:∃ g,g=w1.heap.size:=⟨_,rfl⟩
 have b2:Below w1.heap.size w1 w2:=by rw [hw2];exact (Below.refl _ _).alloc (Nat.le_refl _) _
 have ho2:w2.ownsRow w1.heap.size 47 7 (.slice (some ⟨g2,0,none⟩) 0 0) 0 []:=own_lit (by rw [hw2,hg2];exact heap_alloc_new _ _) (by rw [hg2];exact Nat.le_refl _)
 have HRN:=Lib.hid hQ.1
 have HLN:=Lib.hid hL.1
 go_enter Tryz.func54,Tryz.ntmps54
 go_upto_region 1 with fail
 rw [←hw1,←hg]
 clear hw1 hg
 go_upto_region 2 with fail
 rw [←hw2,←hg2]
 clear hw2 hg2
 go_wp2_with fail
 go_loopw [7,8] (fun v7 v8 wr=>∃ k:Nat,v8=.int .i64 k∧k≤ln∧wr.ownsRow w1.heap.size 47 7 v7 k (((l.take k).map (K.req x.r)).flatMap Q.cells)∧Below w1.heap.size w1 wr) (fun _ v8 _=>ln - (intOf v8).toNat)
 case atStart=>exact ⟨0,rfl,Nat.zero_le _,ho2,b2⟩
 case round =>
  obtain ⟨k,rfl,hk,hown,hbr⟩:=hrel
  have hbw:=bel b1 hbr
  have hNr:=hN1.below hbr
  by_cases hlt:k < ln
  ·obtain ⟨ad,j,hA,hj,cj⟩:=(hL.below hbw).at_ hlt
   have HJ:=Lib.hid hj
   obtain ⟨hj0,hj1⟩:=hin j (List.mem_of_getElem? hj)
   obtain ⟨n,rfl⟩:∃ n:Nat,j=(n:Int):=⟨j.toNat,by omega⟩
   have hn:n < x.m:=by omega
   obtain ⟨adB,q,hB,hq,-,c0,c1,c2,c3,c4,c5,c6⟩:=(hQ.below hbw).at_ hn
   have HTK:=Lib.hid (show (l.take (k + 1)).map (K.req x.r)=(l.take k).map (K.req x.r) ++ [q] by rw [take_snoc HJ.out,List.map_append,List.map_singleton,K.req_at hq])
   have k0:(0:Int)≤(k:Int):=by omega
   have k1:(k:Int) < (ln:Int):=by omega
   have p3:=blk_cell hNr 3 _ rfl
   have d1:decide ((0:Int)≤(n:Int))=true:=decide_eq_true hj0
   have d2:decide ((n:Int) < (x.m:Int))=true:=decide_eq_true hj1
   have d3:decide (n < x.m)=true:=decide_eq_true hn
   rw [hA]
   have HA:=Lib.hid hA
   have HB:=Lib.hid hB
   rw [hB] at p3
   clear hA hB hj hq
   go_wp2_with fail
   go_quiet (fail)
   obtain ⟨wd,hwd⟩:∃ wd,wd=wr.drewN nq:=⟨_,rfl⟩
   have bd:Below wr.heap.size wr wd:=by rw [hwd];exact below_drewN (Below.refl _ _) _
   rw [←hwd]
   clear hwd
   have hbd:=bel hbr bd
   have hbwd:=bel hbw bd
   have hownd:=own_below hown bd
   have p3:=(bd.cell (cell_lt p3)).trans p3
   have cj:=(bd.cell (cell_lt cj)).trans cj
   have c0:=(bd.cell (cell_lt c0)).trans c0
   have c1:=(bd.cell (cell_lt c1)).trans c1
   have c2:=(bd.cell (cell_lt c2)).trans c2
   have c3:=(bd.cell (cell_lt c3)).trans c3
   have c4:=(bd.cell (cell_lt c4)).trans c4
   have c5:=(bd.cell (cell_lt c5)).trans c5
   have c6:=(bd.cell (cell_lt c6)).trans c6
   have hnw:=heap_alloc_new wd (.cells #[.int .i64 q.node,.int .i64 q.room,.int .i64 q.kilos,.int .i64 q.service,.int .i64 q.frm,.int .i64 q.by_,.slice q.A q.n q.c] 47)
   have own1:(wd.alloc (.cells #[.int .i64 q.node,.int .i64 q.room,.int .i64 q.kilos,.int .i64 q.service,.int .i64 q.frm,.int .i64 q.by_,.slice q.A q.n q.c] 47)).drew.ownsRow w1.heap.size 47 7 u7 k (((l.take k).map (K.req x.r)).flatMap Q.cells):=hownd.alloc _
   have new1:∀ (j:Nat) (u:Value),(q.cells)[j]? = some u→(wd.alloc (.cells #[.int .i64 q.node,.int .i64 q.room,.int .i64 q.kilos,.int .i64 q.service,.int .i64 q.frm,.int .i64 q.by_,.slice q.A q.n q.c] 47)).drew.cell? ((⟨wd.heap.size,0,none⟩:Addr).add j)=some u:=fun j u hu=>by
    rw [add_zero_block]
    exact blk_cell (w:=(wd.alloc (.cells #[.int .i64 q.node,.int .i64 q.room,.int .i64 q.kilos,.int .i64 q.service,.int .i64 q.frm,.int .i64 q.by_,.slice q.A q.n q.c] 47)).drew) hnw j u (by simpa [Q.cells] using hu)
   have one1:=req_one q
   have le1:k + 1≤maxLen:=by simp only [maxLen];omega
   have le2:(k + 1) * 72≤140737488355328:=by omega
   have hwz:=hbd.size
   have le3:w1.heap.size≤(wd.alloc (.cells #[.int .i64 q.node,.int .i64 q.room,.int .i64 q.kilos,.int .i64 q.service,.int .i64 q.frm,.int .i64 q.by_,.slice q.A q.n q.c] 47)).drew.heap.size:=by
    show _≤(wd.alloc _).heap.size
    rw [World.size_alloc];omega
   obtain ⟨i0,hi,hz0,hz1,hz2⟩:=info_parts clone120_info
   go_wp2_with fail
   go_region_law (apply step_append_lies (hgd:=rfl) (s:=.tmp 31) (x:=.tmp 40) (t:=26) (ho:=rfl) (base:=w1.heap.size) (e:=47) (i:=i0) (z:=(.agg #[.int .i64 0,.int .i64 0,.int .i64 0,.int .i64 0,.int .i64 0,.int .i64 0,.slice none 0 0])) (size:=7) (bytes:=72) (ht:=Tryz.underlying26) (hi:=hi) (hz:=hz0) (hsize:=hz1) (hby:=hz2) (hzs:=rfl) (hsz:=by decide) (v:=u7) (n:=k) (xs:=((l.take k).map (K.req x.r)).flatMap Q.cells) (ad:=⟨wd.heap.size,0,none⟩) (m:=1) (c:=1) (news:=q.cells) (hm:=Nat.one_pos) (h63:=le1) (hbytes:=le2) (hs:=rfl) (hown:=own1) (hx:=rfl) (hl:=rfl) (hnews:=new1) (h1:=one1) (hbase:=le3) (hH:=rfl);intro g4 cap4 w4 hown4 hgrow4 hlies hlt4)
   all_goals go_wp2_with fail
   all_goals
    have hb4:Below w1.heap.size w1 w4:=((hbd.alloc hbd.size _).drew).grown hgrow4 le3 (fun g h=>(hownd.lt g h).1)
    refine ⟨⟨k + 1,by push_cast;rfl,hlt,?_,hb4⟩,by simp [intOf];omega⟩
    rw [HTK.out,List.flatMap_append,List.flatMap_singleton]
    exact hown4
  ·have hkl:k=ln:=by omega
   subst hkl
   have hd:decide ((k:Int) < (k:Int))=false:=decide_eq_false (by omega)
   have etk:l.take k=l:=List.take_of_length_le (by rw [←HLN.out];exact Nat.le_refl _)
   rw [etk] at hown
   have hlk:=HLN.out
   rcases hmo with rfl | ⟨n,rfl,hn⟩
   ·have HR:=Lib.hid (show K.chosen34 x.r l (-1)=l.map (K.req x.r) by unfold K.chosen34;rw [if_pos (by decide),List.append_nil])
    go_wp2_with fail
    go_ret
    refine ⟨⟨_,rfl,?_⟩,hbw⟩
    rw [HR.out,List.length_map,←hlk]
    exact own_base hown b1.size
   ·have HR:=Lib.hid (show K.chosen34 x.r l (n:Int)=l.map (K.req x.r) ++ [K.req x.r (n:Int)] by unfold K.chosen34;rw [if_neg (by omega)])
    obtain ⟨adB,q,hB,hq,-,c0,c1,c2,c3,c4,c5,c6⟩:=(hQ.below hbw).at_ hn
    have HRQ:=Lib.hid (K.req_at hq)
    have p3:=blk_cell hNr 3 _ rfl
    have d0:decide ((0:Int)≤(n:Int))=true:=decide_eq_true (by omega)
    have d2:decide ((n:Int) < (x.m:Int))=true:=decide_eq_true (by omega)
    have d3:decide (n < x.m)=true:=decide_eq_true hn
    have n0:(0:Int)≤(n:Int):=by omega
    have n1:(n:Int) < (x.m:Int):=by omega
    obtain ⟨w8,hw8⟩:∃ w8:World,w8=wr.alloc (.cells #[.int .i64 q.node,.int .i64 q.room,.int .i64 q.kilos,.int .i64 q.service,.int .i64 q.frm,.int .i64 q.by_,.slice q.A q.n q.c] 47):=⟨_,rfl⟩
    obtain ⟨g8,hg8⟩:∃ g,g=wr.heap.size:=⟨_,rfl⟩
    have b8:Below wr.heap.size wr w8:=by rw [hw8];exact (Below.refl _ _).alloc (Nat.le_refl _) _
    have hL8:w8.heap[g8]? = some (.cells #[.int .i64 q.node,.int .i64 q.room,.int .i64 q.kilos,.int .i64 q.service,.int .i64 q.frm,.int .i64 q.by_,.slice q.A q.n q.c] 47 (0,0)):=by rw [hw8,hg8];exact heap_alloc_new _ _
    have hown8:=own_below hown b8
    have hb8:=bel hbr b8
    have hz8:w1.heap.size≤w8.heap.size:=hb8.size
    obtain ⟨i0,hi0,hy0,hy1,hy2⟩:=info_parts clone120_info
    rw [hB] at p3
    clear hB hq
    go_wp2_with (first
     | (at_builtin;rw [←hw8,←hg8];refine wp_append_rd rfl _ _ 26 rfl w1.heap.size 47 i0 (.agg #[.int .i64 0,.int .i64 0,.int .i64 0,.int .i64 0,.int .i64 0,.int .i64 0,.slice none 0 0]) 7 72 Tryz.underlying26 hi0 hy0 hy1 hy2 rfl (by decide) _ k ((l.map (K.req x.r)).flatMap Q.cells) rfl hown8 (some ⟨g8,0,none⟩) 1 1 (Q.cells q) rfl (Rd.of_block hL8 7 1 rfl) (req_one q) (by simp only [maxLen];omega) (by omega) hz8 ?_;intro v9 w9 hown9 hgr9 ha9)
     | fail)
    have hb9:Below w1.heap.size w1 w9:=below_own2 hb8 hgr9 (fun g e=>(own_in hown8 g e).1)
    go_ret
    refine ⟨⟨_,rfl,?_⟩,bel b1 hb9⟩
    rw [HR.out,HRQ.out,List.length_append,List.length_map,←hlk,List.flatMap_append,List.flatMap_singleton]
    exact own_base hown9 b1.size
end Go.Proofs.YtippdjmpkafifaaGreat
