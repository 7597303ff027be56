import Derived.Test.YtippdjmpkafifaaGreatCK20
namespace Go.Proofs.YtippdjmpkafifaaGreat
open Go.RowKit
theorem rd_takeK {w:World} {s n:Nat} {A:Option Addr} {xs:List Value} (h:Rd w s A n xs) {k:Nat} (hk:k≤n):Rd w s A k (xs.take (k * s)):=by
 refine ⟨by rw [List.length_take,h.1];exact Nat.min_eq_left (Nat.mul_le_mul_right _ hk),fun h0=>?_⟩
 obtain ⟨ad,e,hc⟩:=h.2 (by omega)
 refine ⟨ad,e,fun j u hu=>hc j u ?_⟩
 have hl:=(List.getElem?_eq_some_iff.1 hu).1
 rw [List.getElem?_take_of_lt (by rw [List.length_take] at hl;omega)] at hu
 exact hu
theorem rd_dropK {w:World} {s n:Nat} {ad:Addr} {xs:List Value} (h:Rd w s (some ad) n xs) {k:Nat} (hk:k≤n):Rd w s (some (ad.add (k * s))) (n - k) (xs.drop (k * s)):=by
 refine ⟨by rw [List.length_drop,h.1,Nat.sub_mul],fun h0=>?_⟩
 obtain ⟨ad',e,hc⟩:=h.2 (by omega)
 injection e with e
 subst e
 refine ⟨_,rfl,fun j u hu=>?_⟩
 rw [List.getElem?_drop] at hu
 rw [add_add]
 exact hc _ u hu
namespace K
def cut34 (l:List Int) (k:Nat):List Int:=l.take k ++ l.drop (k + 1)
theorem cut34_sub (l:List Int) (k:Nat):(cut34 l k).Sublist l:=by
 unfold cut34
 conv=>rhs;rw [←List.take_append_drop k l]
 refine (List.Sublist.refl _).append ?_
 rw [show l.drop (k + 1)=(l.drop k).drop 1 by rw [List.drop_drop]]
 exact List.drop_sublist _ _
theorem cut34_asc {n p:Int} {l:List Int} (h:asc33 n p l=true) (k:Nat):asc33 n p (cut34 l k)=true:=by
 obtain ⟨h1,h2⟩:=asc33_iff.1 h
 exact asc33_iff.2 ⟨h1.sublist (cut34_sub l k),fun i hi=>h2 i ((cut34_sub l k).subset hi)⟩
theorem plan_len {nd:Int} {l:List Ro} {ss:List S} {r:List Q}:(plan nd l ss r).1.length≤ss.length:=by
 unfold plan
 split
 ·split
  ·exact Nat.zero_le _
  ·unfold toursOf
   exact Nat.le_trans (List.length_filterMap_le _ _) (Nat.le_of_eq List.length_range)
 ·exact Nat.zero_le _
end K
set_option maxRecDepth 100000 in
set_option maxHeartbeats 16000000 in
theorem fewer13_any (x:Cs) (LA:Option Addr) (ln lc:Nat) (lost:List Int) (wh:Int) (w:World) (hN:Roads w x.A x.n x.l) (hS:Shifts w x.SA x.sn x.ss) (hQ:Reqs w x.B x.m x.r) (hL:Ints w LA ln lost) (hlc:ln≤lc) (hwh:(Lit.int .u8 wh).wf=true) :
  Calls Tryz.prog 13 #[.agg #[.int .i64 x.nd,.slice x.A x.n x.c,.slice x.SA x.sn x.sc,.slice x.B x.m x.d],.slice LA ln lc,.int .u8 wh] w fun e w'=>e=.returned (.bool true)∧Below w.heap.size w w':=by
 obtain ⟨w1,hw1⟩:∃ w1:World,w1=w.alloc (.cells #[.int .i64 x.nd,.slice x.A x.n x.c,.slice x.SA x.sn x.sc,.slice x.B x.m x.d] 44):=⟨_,rfl⟩
 obtain ⟨g,hg⟩:∃ g,g=w.heap.size:=⟨_,rfl⟩
 have b1:Below w.heap.size w w1:=by rw [hw1];exact (Below.refl _ _).alloc (Nat.le_refl _) _
 have hN1:BkBlk w1 g x:=by rw [hw1,hg];exact BkBlk.new _ _
 have HRN:=Lib.hid hQ.1
 have HLN:=Lib.hid hL.1
 go_enter Tryz.func13,Tryz.ntmps13
 go_upto_region 1 with fail
 rw [←hw1,←hg]
 clear hw1 hg
 go_wp2_with fail
 refine (sane42_any w1).mono ?_
 rintro e w2 ⟨rfl,b2⟩
 have hN2:=hN1.below b2
 have hb2:=bel b1 b2
 clear hN1 b1 b2
 have p0:=blk_cell hN2 0 _ rfl
 have p1:=blk_cell hN2 1 _ rfl
 have p2:=blk_cell hN2 2 _ rfl
 have p3:=blk_cell hN2 3 _ rfl
 go_wp2_with fail
 refine (rfew43_any x LA ln lc w2 (hS.below hb2) (hQ.below hb2)).mono ?_
 rintro e w3 ⟨⟨z,rfl,hz⟩,b3⟩
 have HZ:=Lib.hid hz
 have hN3:=hN2.below b3
 have hb3:=bel hb2 b3
 clear hz hN2 hb2 b3 p0 p1 p2 p3
 cases z
 ·go_wp2_with fail
  go_ret
  exact ⟨rfl,hb3⟩
 obtain ⟨hF,hl10⟩:=HZ.out rfl
 obtain ⟨hn40,hs6,hm8,hsr,-,-,-⟩:=K.few32_parts hF hQ.1
 have hx3:CsAt w3 x:=K.few32_at hF (Lst.below hN hb3) (hS.below hb3) (hQ.below hb3)
 have HSR:=Lib.hid (show ∀ s ∈ x.ss,s.n≤1000000 from fun s hs=>by have:=hsr s hs;omega)
 clear HZ hsr hF
 have p0:=blk_cell hN3 0 _ rfl
 have p1:=blk_cell hN3 1 _ rfl
 have p2:=blk_cell hN3 2 _ rfl
 have p3:=blk_cell hN3 3 _ rfl
 have CK:=keep47_any x LA ln lc lost w3 hx3 (hL.below hb3) (by omega) (by omega) HSR.out
 obtain ⟨kk,hkk⟩:∃ kk,kk=K.keep34 x.nd x.l x.ss x.r lost:=⟨_,rfl⟩
 rw [←hkk] at CK
 have HKK:=Lib.hid hkk
 clear hkk
 go_wp2_with fail
 refine CK.mono ?_
 obtain ⟨er,her⟩:∃ er,er=kk.2:=⟨_,rfl⟩
 rw [←her]
 have HER:=Lib.hid her
 rintro e w4 ⟨⟨KA,kn,kc,RA,rn,rc,dd,rfl,hK,-⟩,b4⟩
 have hN4:=hN3.below b4
 have hb4:=bel hb3 b4
 have hx4:=hx3.below b4
 clear CK her p0 p1 p2 p3 hN3 hx3
 by_cases hz:er=0
 rotate_left
 ·have hd:(er != 0)=true:=by simp [bne,hz]
  go_wp2_with fail
  go_ret
  exact ⟨rfl,hb4⟩
 subst hz
 have hkn:kn≤x.m:=by
  have h1:=hK.1
  have h2:=K.keep_kept (nd:=x.nd) (l:=x.l) (ss:=x.ss) (r:=x.r) (lost:=lost) (by rw [←HKK.out];exact HER.out.symm)
  rw [←HKK.out,←HRN.out] at h2
  omega
 have HE0:=Lib.hid (show K.restE x.nd x.l x.ss x.r lost=0 by
  have h:=HER.out.symm
  rw [HKK.out] at h
  unfold K.keep34 at h
  split at h
  ·assumption
  ·exact h)
 have HSP:=Lib.hid (fun h1 h2=>K.keep_spared (nd:=x.nd) (l:=x.l) (ss:=x.ss) (r:=x.r) (lost:=lost) HE0.out h1 h2)
 obtain ⟨PP,hPP⟩:∃ PP,PP=K.plan x.nd x.l x.ss x.r:=⟨_,rfl⟩
 have CP:=plan32X x w4 hx4
 rw [←hPP] at CP
 have HPP:=Lib.hid hPP
 clear hPP
 have p0:=blk_cell hN4 0 _ rfl
 have p1:=blk_cell hN4 1 _ rfl
 have p2:=blk_cell hN4 2 _ rfl
 have p3:=blk_cell hN4 3 _ rfl
 go_wp2_with fail
 refine CP.mono ?_
 rintro e w5 ⟨⟨TA,tn,tc,tl,rfl,hT,htc,htl,-,-⟩,b5⟩
 obtain ⟨f,hf⟩:∃ f,f=PP.2:=⟨_,rfl⟩
 rw [←hf]
 have HF:=Lib.hid hf
 have HTL:=Lib.hid htl
 have hN5:=hN4.below b5
 have hb5:=bel hb4 b5
 have hK5:=hK.below b5
 have hx5:=hx4.below b5
 clear CP hf p0 p1 p2 p3 hN4 htl hx4
 have HTN:=Lib.hid hT.1.1
 have htn6:tn≤6:=by
  have h1:=congrArg List.length HTL.out
  rw [List.length_map,List.length_map,HPP.out] at h1
  have h2:=K.plan_len (nd:=x.nd) (l:=x.l) (ss:=x.ss) (r:=x.r)
  have h3:=hT.1.1
  have h4:=hS.1.1
  omega
 obtain ⟨z,hz⟩:∃ z,z=(f == 0):=⟨_,rfl⟩
 have d1:(f == 0)=z:=hz.symm
 have d2:decide (f=0)=z:=by rw [hz,Bool.eq_iff_iff];simp
 have HZF:=Lib.hid hz
 clear hz
 go_upto_region 9 with fail
 go_wp2_with fail
 go_loopw [14,15] (fun v14 v15 wr=>∃ (i:Nat) (zz:Bool),v15=.int .i64 i∧i≤tn∧v14=.bool zz∧Hid (zz=(z && (tl.take i).all fun y=>!lost.contains y.sh))∧Below w5.heap.size w5 wr) (fun _ v15 _=>tn - (intOf v15).toNat)
 case atStart=>exact ⟨0,z,rfl,Nat.zero_le _,rfl,by show _=_;rw [List.take_zero,List.all_nil,Bool.and_true],Below.refl _ _⟩
 case round =>
  clear d1 d2
  obtain ⟨i,zz,rfl,hi,rfl,hzz,hbr⟩:=hrel
  by_cases hlt:i < tn
  ·have i0:(0:Int)≤(i:Int):=by omega
   have i1:(i:Int) < (tn:Int):=by omega
   obtain ⟨ad,y,hA,hy,-,c0,-,-,-⟩:=(hT.below hbr).at_ hlt
   have HNX:=Lib.hid (show (tl.take (i + 1)).all (fun y=>!lost.contains y.sh)=((tl.take i).all (fun y=>!lost.contains y.sh) && !lost.contains y.sh) by rw [take_snoc hy,List.all_append,List.all_cons,List.all_nil,Bool.and_true])
   rw [hA]
   cases zz
   ·have HQ:=Lib.hid (show false=(z && (tl.take (i + 1)).all fun y=>!lost.contains y.sh) by rw [HNX.out,←Bool.and_assoc,←hzz.out,Bool.false_and])
    clear hA hy c0 HNX
    go_wp2_with fail
    go_roundw
    case rel=>(go_light;exact ⟨i + 1,false,by go_num,hlt,rfl,HQ.out,hbr⟩)
    case measure=>(go_light;simp [intOf];omega)
   ·have CH:=has55_any LA ln lc lost y.sh wr (hL.below (bel hb5 hbr)) (by omega)
    obtain ⟨z2,hz2⟩:∃ z2,z2=lost.contains y.sh:=⟨_,rfl⟩
    rw [any_contains,←hz2] at CH
    have HQ:=Lib.hid (show (!z2)=(z && (tl.take (i + 1)).all fun y=>!lost.contains y.sh) by rw [HNX.out,←Bool.and_assoc,←hzz.out,Bool.true_and,hz2])
    clear hA hy HNX hz2
    go_wp2_with fail
    refine CH.mono ?_
    rintro e w6 ⟨rfl,b6⟩
    have hb6:=bel hbr b6
    clear CH c0
    cases z2
    ·go_wp2_with fail
     go_roundw
     case rel=>(go_light;exact ⟨i + 1,true,by go_num,hlt,rfl,HQ.out,hb6⟩)
     case measure=>(go_light;simp [intOf];omega)
    ·go_wp2_with fail
     go_roundw
     case rel=>(go_light;exact ⟨i + 1,false,by go_num,hlt,rfl,HQ.out,hb6⟩)
     case measure=>(go_light;simp [intOf];omega)
  ·have e1:decide ((i:Int) < (tn:Int))=false:=decide_eq_false (by omega)
   have e2:decide (i < tn)=false:=decide_eq_false hlt
   have HZZ:=Lib.hid (show zz=true→kn=x.m from fun h=>by
    have h1:=hzz.out
    rw [List.take_of_length_le (by rw [←HTN.out];omega),h] at h1
    have h2:=Bool.and_eq_true_iff.1 h1.symm
    have hf0:(K.plan x.nd x.l x.ss x.r).2=0:=by rw [←HPP.out,←HF.out];exact beq_iff_eq.1 (by rw [←HZF.out];exact h2.1)
    have h3:=HSP.out hf0 (fun t ht=>by
     have h4:((t.1:Int),t.2) ∈ tl.map TV.pr:=by rw [HTL.out,HPP.out];exact List.mem_map.2 ⟨t,ht,rfl⟩
     obtain ⟨y,hy,e⟩:=List.mem_map.1 h4
     have h5:=List.all_eq_true.1 h2.2 y hy
     have h6:y.sh=(t.1:Int):=congrArg Prod.fst e
     rw [h6] at h5
     simpa using h5)
    rw [←HKK.out,←hK.1,←HRN.out] at h3
    exact h3)
   obtain ⟨W4,hW4⟩:∃ W4,W4=wr:=⟨_,rfl⟩
   rw [←hW4] at hbr ⊢
   clear hW4 hzz HSP
   have hb6:=bel hb5 hbr
   have hN6:=hN5.below hbr
   have hx6:=hx5.below hbr
   have hK6:=hK5.below hbr
   have hL6:=hL.below hb6
   have p0:=blk_cell hN6 0 _ rfl
   have p1:=blk_cell hN6 1 _ rfl
   have p2:=blk_cell hN6 2 _ rfl
   have p3:=blk_cell hN6 3 _ rfl
   go_upto_region 13 with fail
   go_cut [78] from 70 to 78 (fun v78 wc=>v78=.bool false∧wc=W4)
   case first =>
    cases zz
    ·go_wp2_with fail
     go_meet
     exact ⟨rfl,rfl⟩
    ·have d3:((kn:Int) != (x.m:Int))=false:=by rw [HZZ.out rfl];simp
     go_wp2_with fail
     go_meet
     exact ⟨rfl,rfl⟩
   case rest =>
   obtain ⟨rfl,hwc⟩:=hcut
   rw [hwc]
   clear hwc HZZ e1 e2
   by_cases h0:ln=0
   ·have d1:((ln:Int) == 0)=true:=by simp [h0]
    have d2:decide ((ln:Int)=0)=true:=by simp [h0]
    clear h0
    go_wp2_with fail
    go_ret
    exact ⟨rfl,hb6⟩
   have d1:((ln:Int) == 0)=false:=by simp [h0]
   have d2:decide ((ln:Int)=0)=false:=by simp [h0]
   have hwi:0≤wh∧wh≤255:=by
    simp [Lit.wf] at hwh
    exact hwh
   obtain ⟨hw0,hw255⟩:=hwi
   obtain ⟨k,hk⟩:∃ k:Nat,wh % (ln:Int)=(k:Int):=⟨(wh % (ln:Int)).toNat,by have:=Int.emod_nonneg wh (show (ln:Int) ≠ 0 by omega);omega⟩
   have hkv:k < ln:=by have:=Int.emod_lt_of_pos wh (show (0:Int) < (ln:Int) by omega);omega
   have hrem:wh.tmod (ln:Int)=(k:Int):=by rw [Int.tmod_eq_emod_of_nonneg hw0];exact hk
   obtain ⟨adL,hadL⟩:∃ ad,LA=some ad:=by
    obtain ⟨ad,e,-⟩:=hL.2.2 (by omega)
    exact ⟨ad,e⟩
   have k0:(0:Int)≤(k:Int):=by omega
   have k1:(k:Int)≤(lc:Int):=by omega
   have k2:IntKind.i64.wrap ((k:Int) + 1)=(k:Int) + 1:=IntWalk.i64_in _ (by omega)
   have k3:(0:Int)≤(k:Int) + 1:=by omega
   have k4:(k:Int) + 1≤(ln:Int):=by omega
   have RK0:Rd W4 1 (some adL) k (intCells (lost.take k)):=by
    have h:=rd_takeK hL6.2 (k:=k) (by omega)
    rw [hadL,Nat.mul_one] at h
    unfold intCells at h ⊢
    rw [List.map_take]
    exact h
   have RE:=Lib.hid (show Rd W4 1 (some (adL.add (k + 1))) (ln - (k + 1)) (intCells (lost.drop (k + 1))) by
    have h:=hL6.2
    rw [hadL] at h
    have h:=rd_dropK h (k:=k + 1) (by omega)
    rw [Nat.mul_one] at h
    unfold intCells at h ⊢
    rw [List.map_drop]
    exact h)
   have HMW:=Lib.hid (show ∀ w',Below W4.heap.size W4 w'→(fun w':World=>w'.cell? ⟨g,0,none⟩=some (.int .i64 x.nd)∧w'.cell? ⟨g,1,none⟩=some (.slice x.A x.n x.c)∧w'.cell? ⟨g,2,none⟩=some (.slice x.SA x.sn x.sc)∧w'.cell? ⟨g,3,none⟩=some (.slice x.B x.m x.d)) w' from fun w' h=>⟨(h.cell (cell_lt p0)).trans p0,(h.cell (cell_lt p1)).trans p1,(h.cell (cell_lt p2)).trans p2,(h.cell (cell_lt p3)).trans p3⟩)
   obtain ⟨f1,f2⟩:=K.keep_fewer (nd:=x.nd) (l:=x.l) (ss:=x.ss) (r:=x.r) (lost:=lost) (lost':=K.cut34 lost k) HE0.out (fun j hj=>(K.cut34_sub lost k).subset hj) (K.cut34_asc (K.restE_0 HE0.out).1 k)
   obtain ⟨k9,hk9⟩:∃ k9,k9=(K.keep34 x.nd x.l x.ss x.r (K.cut34 lost k)).1:=⟨_,rfl⟩
   rw [←HKK.out,←hk9] at f2
   have HEQ:=Lib.hid f2
   have HI7:=Lib.hid (show ∀ (w':World) (A:Option Addr),Rd w' 1 A (k + (ln - (k + 1))) (intCells (lost.take k) ++ intCells (lost.drop (k + 1)))→Ints w' A (k + (ln - (k + 1))) (K.cut34 lost k) from fun w' A h=>⟨by unfold K.cut34;rw [List.length_append,List.length_take,List.length_drop,←HLN.out];omega,by unfold K.cut34;rw [intCells_app];exact h⟩)
   have HC47:=Lib.hid (show ∀ (w':World) (A:Option Addr) (c:Nat),Below W4.heap.size W4 w'→Ints w' A (k + (ln - (k + 1))) (K.cut34 lost k)→Calls Tryz.prog 47 #[.agg #[.int .i64 x.nd,.slice x.A x.n x.c,.slice x.SA x.sn x.sc,.slice x.B x.m x.d],.slice A (k + (ln - (k + 1))) c] w' fun e w''=>(∃ KB kn2 kc2 TB tn2 tc2 RB rn2 rc2,e=.returned (.tuple #[.slice KB kn2 kc2,.slice TB tn2 tc2,.slice RB rn2 rc2,.int .i64 0])∧Ints w'' KB kn2 k9.kept)∧Below w'.heap.size w' w'' from fun w' A c hb hI=>by
    have h:=keep47_any x A (k + (ln - (k + 1))) c (K.cut34 lost k) w' (hx6.below hb) hI (by omega) (by omega) HSR.out
    rw [f1,←hk9] at h
    refine h.mono ?_
    rintro e w'' ⟨⟨KB,kn',kc',RB,rn',rc',d2,rfl,hK2,-⟩,b7⟩
    exact ⟨⟨KB,kn',kc',_,_,_,RB,rn',rc',rfl,hK2⟩,b7⟩)
   have hk9l:k9.kept.length≤x.m:=by
    have h:=K.keep_kept (nd:=x.nd) (l:=x.l) (ss:=x.ss) (r:=x.r) (lost:=K.cut34 lost k) f1
    rw [←hk9,←HRN.out] at h
    exact h
   have HK9:=Lib.hid hk9l
   have HAB:=Lib.hid hadL
   clear hk f1 f2 hk9 hadL hk9l
   go_upto_region 18 with fail
   clear d1 d2 hrem p0 p1 p2 p3
   rw [HAB.out]
   go_cut [17,20] (fun v17 v20 wc=>∃ KB kn2 kc2,v17=.slice KB kn2 kc2∧v20=.int .i64 0∧Ints wc KB kn2 k9.kept∧Below W4.heap.size W4 wc)
   case first =>
    by_cases hc:lc=k + 1
    ·have hc':(lc=k + 1)=True:=eq_true hc
     have RKD:Rd W4 1 (some adL) (ln - (k + 1)) (intCells (lost.drop (k + 1))):=by
      have e0:ln - (k + 1)=0:=by omega
      have h9:=RE.out
      rw [e0] at h9 ⊢
      exact ⟨h9.1,fun h=>absurd h (Nat.lt_irrefl 0)⟩
     clear hc
     have hWW:Below W4.heap.size W4 W4:=Below.refl _ _
     have Fd:Below W4.heap.size W4 W4.drew:=hWW.drew
     have Fz:Below W4.heap.size W4 (W4.alloc (.cells #[] 3)):=bel_allocK _ _
     have S0:=HMW.out _ hWW
     have S0d:=HMW.out _ Fd
     have S0z:=HMW.out _ Fz
     have S0zd:=HMW.out _ Fz.drew
     obtain ⟨i0,hi,hzz0,hzz1,hzz2⟩:=info_parts Tryz.info3
     have hone:∀ u ∈ intCells (lost.take k),u.oneCell'=true:=intCells_one _
     have hone2:∀ u ∈ intCells (lost.drop (k + 1)),u.oneCell'=true:=intCells_one _
     have hm63:0 + k≤maxLen:=by simp only [maxLen];omega
     have hm47:(0 + k) * 8≤140737488355328:=by omega
     have hn63:k + (ln - (k + 1))≤maxLen:=by simp only [maxLen];omega
     have hn47:(k + (ln - (k + 1))) * 8≤140737488355328:=by omega
     have Cz:∀ g,(Value.slice (some ⟨W4.heap.size,0,none⟩) 0 0).ownBlock=some g→W4.heap.size≤g:=fun g e=>by injection e with e;rw [←e];exact Nat.le_refl _
     have Oa:(W4.alloc (.cells #[] 3)).drew.ownsRow W4.heap.size 3 1 (.slice (some ⟨W4.heap.size,0,none⟩) 0 0) 0 []:=own_lit (heap_alloc_new W4 (.cells #[] 3)) (Nat.le_refl _)
     have Rq:Rd W4 1 (some adL) k (intCells (lost.take k)):=RK0
     have Ra:=Rq.below Fz.drew
     have Oz:True:=trivial
     go_region_held3 (fun w':World=>w'.cell? ⟨g,0,none⟩=some (.int .i64 x.nd)∧w'.cell? ⟨g,1,none⟩=some (.slice x.A x.n x.c)∧w'.cell? ⟨g,2,none⟩=some (.slice x.SA x.sn x.sc)∧w'.cell? ⟨g,3,none⟩=some (.slice x.B x.m x.d))
      (first | with_reducible exact S8 | with_reducible exact S7s | with_reducible exact S7 | with_reducible exact S6 | with_reducible exact S0zd | with_reducible exact S0z | with_reducible exact S0d | with_reducible exact S0 | fail)
      (first
       | (go_at_call 47;refine (HC47.out _ A7 k7 b7r hI7).mono ?_;rintro e w8 ⟨⟨KB,kn2,kc2,TB,tn2,tc2,RB,rn2,rc2,rfl,hK2⟩,b8⟩;have b8r:=bel b7r b8;have S8:=HMW.out _ b8r)
       | (have h0:=Oz;clear Oz;apply step_append_rd (hgd:=rfl) (s:=.tmp 90) (x:=.tmp 93) (t:=48) (ho:=rfl) (base:=W4.heap.size) (e:=3) (i:=i0) (z:=(.int .i64 0)) (size:=1) (bytes:=8) (ht:=Tryz.underlying48) (hi:=hi) (hz:=hzz0) (hsize:=hzz1) (hby:=hzz2) (hzs:=rfl) (hsz:=by decide) (v:=.slice (some ⟨_,0,none⟩) 0 0) (n:=0) (xs:=[]) (hs:=rfl) (A:=some adL) (m:=k) (c:=lc) (news:=intCells (lost.take k)) (hx:=rfl) (h1:=hone) (h63:=hm63) (hbytes:=hm47);with_reducible exact Oa;with_reducible exact Ra;with_reducible exact Fz.drew.size;intro v6 w6 hown6 hgr6 hat6;have b6r:Below W4.heap.size W4 w6:=below_own2 Fz.drew hgr6 Cz;have S6:=HMW.out _ b6r;rw [Nat.zero_add,List.nil_append] at hown6)
       | (have h9:=hown6;clear hown6;apply step_append_rd (hgd:=rfl) (s:=.tmp 94) (x:=.tmp 98) (t:=48) (ho:=rfl) (base:=W4.heap.size) (e:=3) (i:=i0) (z:=(.int .i64 0)) (size:=1) (bytes:=8) (ht:=Tryz.underlying48) (hi:=hi) (hz:=hzz0) (hsize:=hzz1) (hby:=hzz2) (hzs:=rfl) (hsz:=by decide) (v:=v6) (n:=k) (xs:=intCells (lost.take k)) (hs:=rfl) (A:=some adL) (m:=(ln - (k + 1))) (c:=(lc - (k + 1))) (news:=intCells (lost.drop (k + 1))) (hx:=rfl) (h1:=hone2) (h63:=hn63) (hbytes:=hn47);with_reducible exact h9;with_reducible exact (RKD.below b6r);with_reducible exact b6r.size;intro v7 w7 hown7 hgr7 hat7;obtain ⟨A7,k7,rfl,hRd7,hF7⟩:=own_form hown7;have b7r:Below W4.heap.size W4 w7:=below_own2 b6r hgr7 (fun g e=>(h9.lt g e).1);have S7:=HMW.out _ b7r;have hI7:=HI7.out _ A7 hRd7)
       | fail)
     all_goals go_wp2_with fail
     all_goals go_meet
     all_goals exact ⟨KB,kn2,kc2,rfl,rfl,hK2,b8r⟩
    ·have hc':(lc=k + 1)=False:=eq_false hc
     have hadd:adL.add (k + 1)=⟨adL.block,adL.off + (k + 1),none⟩:=by unfold Addr.add;simp
     have RKD:Rd W4 1 (some ⟨adL.block,adL.off + (k + 1),none⟩) (ln - (k + 1)) (intCells (lost.drop (k + 1))):=by rw [←hadd];exact RE.out
     clear hc hadd
     have hWW:Below W4.heap.size W4 W4:=Below.refl _ _
     have Fd:Below W4.heap.size W4 W4.drew:=hWW.drew
     have Fz:Below W4.heap.size W4 (W4.alloc (.cells #[] 3)):=bel_allocK _ _
     have S0:=HMW.out _ hWW
     have S0d:=HMW.out _ Fd
     have S0z:=HMW.out _ Fz
     have S0zd:=HMW.out _ Fz.drew
     obtain ⟨i0,hi,hzz0,hzz1,hzz2⟩:=info_parts Tryz.info3
     have hone:∀ u ∈ intCells (lost.take k),u.oneCell'=true:=intCells_one _
     have hone2:∀ u ∈ intCells (lost.drop (k + 1)),u.oneCell'=true:=intCells_one _
     have hm63:0 + k≤maxLen:=by simp only [maxLen];omega
     have hm47:(0 + k) * 8≤140737488355328:=by omega
     have hn63:k + (ln - (k + 1))≤maxLen:=by simp only [maxLen];omega
     have hn47:(k + (ln - (k + 1))) * 8≤140737488355328:=by omega
     have Cz:∀ g,(Value.slice (some ⟨W4.heap.size,0,none⟩) 0 0).ownBlock=some g→W4.heap.size≤g:=fun g e=>by injection e with e;rw [←e];exact Nat.le_refl _
     have Oa:(W4.alloc (.cells #[] 3)).drew.ownsRow W4.heap.size 3 1 (.slice (some ⟨W4.heap.size,0,none⟩) 0 0) 0 []:=own_lit (heap_alloc_new W4 (.cells #[] 3)) (Nat.le_refl _)
     have Rq:Rd W4 1 (some adL) k (intCells (lost.take k)):=RK0
     have Ra:=Rq.below Fz.drew
     have Oz:True:=trivial
     go_region_held3 (fun w':World=>w'.cell? ⟨g,0,none⟩=some (.int .i64 x.nd)∧w'.cell? ⟨g,1,none⟩=some (.slice x.A x.n x.c)∧w'.cell? ⟨g,2,none⟩=some (.slice x.SA x.sn x.sc)∧w'.cell? ⟨g,3,none⟩=some (.slice x.B x.m x.d))
      (first | with_reducible exact S8 | with_reducible exact S7s | with_reducible exact S7 | with_reducible exact S6 | with_reducible exact S0zd | with_reducible exact S0z | with_reducible exact S0d | with_reducible exact S0 | fail)
      (first
       | (go_at_call 47;refine (HC47.out _ A7 k7 b7r hI7).mono ?_;rintro e w8 ⟨⟨KB,kn2,kc2,TB,tn2,tc2,RB,rn2,rc2,rfl,hK2⟩,b8⟩;have b8r:=bel b7r b8;have S8:=HMW.out _ b8r)
       | (have h0:=Oz;clear Oz;apply step_append_rd (hgd:=rfl) (s:=.tmp 90) (x:=.tmp 93) (t:=48) (ho:=rfl) (base:=W4.heap.size) (e:=3) (i:=i0) (z:=(.int .i64 0)) (size:=1) (bytes:=8) (ht:=Tryz.underlying48) (hi:=hi) (hz:=hzz0) (hsize:=hzz1) (hby:=hzz2) (hzs:=rfl) (hsz:=by decide) (v:=.slice (some ⟨_,0,none⟩) 0 0) (n:=0) (xs:=[]) (hs:=rfl) (A:=some adL) (m:=k) (c:=lc) (news:=intCells (lost.take k)) (hx:=rfl) (h1:=hone) (h63:=hm63) (hbytes:=hm47);with_reducible exact Oa;with_reducible exact Ra;with_reducible exact Fz.drew.size;intro v6 w6 hown6 hgr6 hat6;have b6r:Below W4.heap.size W4 w6:=below_own2 Fz.drew hgr6 Cz;have S6:=HMW.out _ b6r;rw [Nat.zero_add,List.nil_append] at hown6)
       | (have h9:=hown6;clear hown6;apply step_append_rd (hgd:=rfl) (s:=.tmp 94) (x:=.tmp 98) (t:=48) (ho:=rfl) (base:=W4.heap.size) (e:=3) (i:=i0) (z:=(.int .i64 0)) (size:=1) (bytes:=8) (ht:=Tryz.underlying48) (hi:=hi) (hz:=hzz0) (hsize:=hzz1) (hby:=hzz2) (hzs:=rfl) (hsz:=by decide) (v:=v6) (n:=k) (xs:=intCells (lost.take k)) (hs:=rfl) (A:=some ⟨adL.block,adL.off + (k + 1),none⟩) (m:=(ln - (k + 1))) (c:=(lc - (k + 1))) (news:=intCells (lost.drop (k + 1))) (hx:=rfl) (h1:=hone2) (h63:=hn63) (hbytes:=hn47);with_reducible exact h9;with_reducible exact (RKD.below b6r);with_reducible exact b6r.size;intro v7 w7 hown7 hgr7 hat7;obtain ⟨A7,k7,rfl,hRd7,hF7⟩:=own_form hown7;have b7r:Below W4.heap.size W4 w7:=below_own2 b6r hgr7 (fun g e=>(h9.lt g e).1);have S7:=HMW.out _ b7r;have hI7:=HI7.out _ A7 hRd7)
       | fail)
     all_goals go_wp2_with fail
     all_goals go_meet
     all_goals exact ⟨KB,kn2,kc2,rfl,rfl,hK2,b8r⟩
   case rest =>
   obtain ⟨KB,kn2,kc2,rfl,rfl,hK2,hbc⟩:=hcut
   have hb7:=bel hb6 hbc
   have hN7:=hN6.below hbc
   have hK7:=hK6.below hbc
   have hkn2:kn2≤x.m:=by rw [hK2.1];exact HK9.out
   obtain ⟨wo,hwo⟩:∃ wo,wo=wc:=⟨_,rfl⟩
   rw [←hwo] at hK2 hb7 hN7 hK7 ⊢
   clear hbc hwo k2 k3 k4 k0 k1
   go_wp2_with fail
   go_loopw [21] (fun v21 wr=>∃ j:Nat,v21=.int .i64 j∧j≤x.m∧Hid (∀ i:Nat,i < j→kk.1.kept.contains (i:Int)=k9.kept.contains (i:Int))∧Below wo.heap.size wo wr) (fun v21 _=>x.m - (intOf v21).toNat)
   case atStart=>exact ⟨0,rfl,Nat.zero_le _,fun i hi=>absurd hi (Nat.not_lt_zero _),Below.refl _ _⟩
   case round =>
    obtain ⟨j,rfl,hj,hsm,hbr⟩:=hrel
    have p3:=blk_cell (hN7.below hbr) 3 _ rfl
    by_cases hlt:j < x.m
    ·have j0:(0:Int)≤(j:Int):=by omega
     have j1:(j:Int) < (x.m:Int):=by omega
     have C1:=has55_any KA kn kc kk.1.kept j wr (hK7.below hbr) (by omega)
     obtain ⟨z1,hz1⟩:∃ z,z=kk.1.kept.contains (j:Int):=⟨_,rfl⟩
     rw [any_contains,←hz1] at C1
     have HZ1:=Lib.hid hz1
     clear hz1
     go_wp2_with fail
     refine C1.mono ?_
     rintro e w8 ⟨rfl,b8⟩
     have hb8:=bel hbr b8
     have C2:=has55_any KB kn2 kc2 k9.kept j w8 (hK2.below hb8) (by omega)
     obtain ⟨z2,hz2⟩:∃ z,z=k9.kept.contains (j:Int):=⟨_,rfl⟩
     rw [any_contains,←hz2] at C2
     have HZ2:=Lib.hid hz2
     clear hz2 C1 p3
     go_wp2_with fail
     refine C2.mono ?_
     rintro e w9 ⟨rfl,b9⟩
     have hb9:=bel hb8 b9
     clear C2
     by_cases he:z1=z2
     ·have HS2:=Lib.hid (show ∀ i:Nat,i < j + 1→kk.1.kept.contains (i:Int)=k9.kept.contains (i:Int) from fun i hi=>by
       by_cases e:i < j
       ·exact hsm.out i e
       ·obtain rfl:i=j:=by omega
        rw [←HZ1.out,←HZ2.out]
        exact he)
      subst he
      have zz:(z1 != z1)=false:=by cases z1 <;> rfl
      go_wp2_with fail
      go_roundw
      case rel=>(go_light;exact ⟨j + 1,by go_num,hlt,HS2.out,hb9⟩)
      case measure=>(go_light;simp [intOf];omega)
     ·have ht:z2=true:=by
       cases z2 with
       | true=>rfl
       | false =>
        have h1:z1=true:=by
         cases z1 with
         | true=>rfl
         | false=>exact absurd rfl he
        have:=HEQ.out j (by rw [←HRN.out];exact hlt) hsm.out (by rw [←HZ1.out];exact h1)
        rw [←HZ2.out] at this
        cases this
      subst ht
      have ht1:z1=false:=by
       cases z1 with
       | true=>exact absurd rfl he
       | false=>rfl
      subst ht1
      clear he
      go_wp2_with fail
      go_ret
      exact ⟨rfl,bel hb7 hb9⟩
    ·have e1:decide ((j:Int) < (x.m:Int))=false:=decide_eq_false (by omega)
     have e2:decide (j < x.m)=false:=decide_eq_false hlt
     go_wp2_with fail
     go_ret
     exact ⟨rfl,bel hb7 hbr⟩
end Go.Proofs.YtippdjmpkafifaaGreat
