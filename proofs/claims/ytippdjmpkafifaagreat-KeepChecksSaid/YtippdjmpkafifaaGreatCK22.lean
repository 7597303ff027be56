import Derived.Test.YtippdjmpkafifaaGreatCK20
import Derived.Test.YtippdjmpkafifaaGreatCK21
import Derived.Test.YtippdjmpkafifaaGreatCK24
namespace Go.Proofs.YtippdjmpkafifaaGreat
open Go.RowKit
def SmR (y:RV):Prop:=y.n≤202∧∀ b ∈ y.bl,b.vn≤6∧b.ln≤60
set_option maxRecDepth 100000 in
set_option maxHeartbeats 8000000 in
theorem rfewr44_any (TA:Option Addr) (tn tc:Nat) (ts:List TV) (RA:Option Addr) (rn rc:Nat) (rl:List RV) (w:World) (hT:Tours w TA tn ts) (hR:Rsn w RA rn rl) :
  Calls Tryz.prog 44 #[.slice TA tn tc,.slice RA rn rc] w fun e w'=>(∃ z,e=.returned (.bool z)∧(z=true→rn≤6∧(tn≤6∧∀ y ∈ ts,y.n≤10∧y.n'≤10)∧∀ y ∈ rl,SmR y))∧Below w.heap.size w w':=by
 go_enter Tryz.func44,Tryz.ntmps44
 go_wp2_with fail
 go_loopw [5] (fun v5 wr=>∃ i:Nat,v5=.int .i64 i∧i≤rn∧i≤6∧Hid (∀ (s:Nat) (y:RV),s < i→rl[s]? = some y→SmR y)∧Below w.heap.size w wr) (fun v5 _=>rn - (intOf v5).toNat)
 case atStart=>exact ⟨0,rfl,Nat.zero_le _,Nat.zero_le _,fun s y h=>absurd h (Nat.not_lt_zero _),Below.refl _ _⟩
 case round =>
  obtain ⟨i,rfl,hi,hi6,hS,hbr⟩:=hrel
  by_cases hlt:i < rn
  ·have i0:(0:Int)≤(i:Int):=by omega
   have i1:(i:Int) < (rn:Int):=by omega
   have d1:decide ((i:Int) < (rn:Int))=true:=decide_eq_true i1
   have d2:decide (i < rn)=true:=decide_eq_true hlt
   by_cases h6:i < 6
   ·have d3:decide ((i:Int) < 6)=true:=decide_eq_true (by omega)
    have d4:decide (i < 6)=true:=decide_eq_true h6
    obtain ⟨ad,y,hA,hy,hyB,cy⟩:=(hR.below hbr).at_ hlt
    have HY:=Lib.hid hy
    have CF:=fewBlocks_any y.A y.n y.c y.bl wr hyB
    rw [hA]
    have HA:=Lib.hid hA
    clear hA hy
    go_wp2_with fail
    refine CF.mono ?_
    rintro e w5 ⟨⟨z,rfl,hz⟩,b5⟩
    have HZ:=Lib.hid hz
    have hb5:=bel hbr b5
    clear CF cy hyB hz
    cases z
    ·go_wp2_with fail
     go_ret
     exact ⟨⟨false,rfl,fun h=>(by cases h)⟩,hb5⟩
    ·have HS2:=Lib.hid (show ∀ (s:Nat) (y:RV),s < i + 1→rl[s]? = some y→SmR y from fun s y' hs hy'=>by
      by_cases e:s < i
      ·exact hS.out s y' e hy'
      ·obtain rfl:s=i:=by omega
       have h9:=HY.out
       rw [hy'] at h9
       injection h9 with h9
       rw [h9]
       exact HZ.out rfl)
     have h6b:i + 1≤6:=h6
     go_wp2_with fail
     exact ⟨⟨i + 1,by push_cast;rfl,hlt,h6b,HS2.out,hb5⟩,by simp [intOf];omega⟩
   ·have d3:decide ((i:Int) < 6)=false:=decide_eq_false (by omega)
    have d4:decide (i < 6)=false:=decide_eq_false h6
    have d5:decide ((rn:Int)≤6)=false:=decide_eq_false (by omega)
    have d6:decide (rn≤6)=false:=decide_eq_false (by omega)
    go_wp2_with fail
    go_ret
    exact ⟨⟨false,rfl,fun h=>(by cases h)⟩,hbr⟩
  ·have d1:decide ((i:Int) < (rn:Int))=false:=decide_eq_false (by omega)
   have d2:decide (i < rn)=false:=decide_eq_false hlt
   have d5:decide ((rn:Int)≤6)=true:=decide_eq_true (by omega)
   have d6:decide (rn≤6)=true:=decide_eq_true (by omega)
   have HB:=Lib.hid (show rn≤6 by omega)
   have HAll:=Lib.hid (show ∀ y ∈ rl,SmR y from fun y hy=>by
    obtain ⟨s,hs,e⟩:=List.getElem_of_mem hy
    have h1:=hR.1.1
    exact hS.out s y (by omega) (by rw [List.getElem?_eq_getElem hs,e]))
   have CT:=fewTours_any TA tn tc ts wr (hT.below hbr)
   go_wp2_with fail
   refine CT.mono ?_
   rintro e w5 ⟨⟨z,rfl,hz⟩,b5⟩
   have HZ:=Lib.hid hz
   have hb5:=bel hbr b5
   clear CT hz
   cases z
   ·go_wp2_with fail
    go_ret
    exact ⟨⟨false,rfl,fun h=>(by cases h)⟩,hb5⟩
   ·go_wp2_with fail
    go_ret
    exact ⟨⟨true,rfl,fun _=>⟨HB.out,HZ.out (by trivial),HAll.out⟩⟩,hb5⟩
set_option maxRecDepth 100000 in
set_option maxHeartbeats 16000000 in
theorem checks11_any (x:Cs) (LA:Option Addr) (ln lc:Nat) (lost:List Int) (KA:Option Addr) (kn kc:Nat) (kept:List Int) (TA:Option Addr) (tn tc:Nat) (ts:List TV) (RA:Option Addr) (rn rc:Nat) (rl:List RV) (w:World) (hN:Roads w x.A x.n x.l) (hS:Shifts w x.SA x.sn x.ss) (hQ:Reqs w x.B x.m x.r) (hL:Ints w LA ln lost) (hK:Ints w KA kn kept) (hT:Tours w TA tn ts) (hR:Rsn w RA rn rl) (hcp:∀ y ∈ rl,y.n≤y.c∧∀ b ∈ y.bl,b.vn≤b.vc) :
  Calls Tryz.prog 11 #[.agg #[.int .i64 x.nd,.slice x.A x.n x.c,.slice x.SA x.sn x.sc,.slice x.B x.m x.d],.slice LA ln lc,.slice KA kn kc,.slice TA tn tc,.slice RA rn rc] w fun e w'=>e=.returned (.bool true)∧Below w.heap.size w w':=by
 obtain ⟨w1,hw1⟩:∃ w1:World,w1=w.alloc (.cells #[.int .i64 x.nd,.slice x.A x.n x.c,.slice x.SA x.sn x.sc,.slice x.B x.m x.d] 44):=⟨_,rfl⟩
 obtain ⟨g,hg⟩:∃ g,g=w.heap.size:=⟨_,rfl⟩
 have b1:Below w.heap.size w w1:=by rw [hw1];exact (Below.refl _ _).alloc (Nat.le_refl _) _
 have hN1:BkBlk w1 g x:=by rw [hw1,hg];exact BkBlk.new _ _
 go_enter Tryz.func11,Tryz.ntmps11
 go_upto_region 1 with fail
 rw [←hw1,←hg]
 clear hw1 hg
 go_wp2_with fail
 refine (sane42_any w1).mono ?_
 rintro e w2 ⟨rfl,b2⟩
 have hN2:=hN1.below b2
 have hb2:=bel b1 b2
 clear hN1 b1 b2
 have p0:=blk_cell hN2 0 _ rfl
 have p1:=blk_cell hN2 1 _ rfl
 have p2:=blk_cell hN2 2 _ rfl
 have p3:=blk_cell hN2 3 _ rfl
 go_wp2_with fail
 refine (rfew43_any x LA ln lc w2 (hS.below hb2) (hQ.below hb2)).mono ?_
 rintro e w3 ⟨⟨z,rfl,hz⟩,b3⟩
 have HZ:=Lib.hid hz
 have hN3:=hN2.below b3
 have hb3:=bel hb2 b3
 clear hz hN2 hb2 b3 p0 p1 p2 p3
 cases z
 ·go_wp2_with fail
  go_ret
  exact ⟨rfl,hb3⟩
 obtain ⟨hF,hl10⟩:=HZ.out rfl
 obtain ⟨hn40,hs6,hm8,hsr,-,-,-⟩:=K.few32_parts hF hQ.1
 have hx3:CsAt w3 x:=K.few32_at hF (Lst.below hN hb3) (hS.below hb3) (hQ.below hb3)
 have HSR:=Lib.hid (show ∀ s ∈ x.ss,s.n≤1000000 from fun s hs=>by have:=hsr s hs;omega)
 clear HZ hsr hF
 by_cases hk10:10 < kn
 ·have d1:decide ((10:Int) < (kn:Int))=true:=decide_eq_true (by omega)
  have d2:decide (10 < kn)=true:=decide_eq_true hk10
  clear hk10
  go_wp2_with fail
  go_ret
  exact ⟨rfl,hb3⟩
 have d1:decide ((10:Int) < (kn:Int))=false:=decide_eq_false (by omega)
 have d2:decide (10 < kn)=false:=decide_eq_false hk10
 have hkn:kn≤1000000000:=by omega
 have CR:=rfewr44_any TA tn tc ts RA rn rc rl w3 (hT.below hb3) (hR.below hb3)
 go_wp2_with fail
 refine CR.mono ?_
 rintro e w4 ⟨⟨z,rfl,hz⟩,b4⟩
 have HZ:=Lib.hid hz
 have hN4:=hN3.below b4
 have hb4:=bel hb3 b4
 have hx4:=hx3.below b4
 clear hz CR hN3 b4 hx3 d1 d2 hk10
 cases z
 ·go_wp2_with fail
  go_ret
  exact ⟨rfl,hb4⟩
 obtain ⟨hr6,⟨ht6,hty⟩,hry⟩:=HZ.out rfl
 have hFT:FewT tn ts:=⟨by omega,fun y hy=>by have:=hty y hy;omega⟩
 have hFR:FewR rn rl:=⟨by omega,fun y hy=>⟨⟨by have:=(hry y hy).1;omega,fun b hb=>⟨(hcp y hy).2 b hb,by have:=((hry y hy).2 b hb).1;omega,by have:=((hry y hy).2 b hb).2;omega⟩⟩,(hcp y hy).1⟩⟩
 have CC:=check52_any x LA ln lc lost KA kn kc kept TA tn tc ts RA rn rc rl w4 hx4 (hL.below hb4) (hK.below hb4) (hT.below hb4) (hR.below hb4) (by omega) hkn hFT hFR (by omega) HSR.out
 obtain ⟨z,hz⟩:∃ z,z=K.kcheck x.nd x.l x.ss x.r lost kept (ts.map TV.pr) (rl.map RV.pr):=⟨_,rfl⟩
 rw [←hz] at CC
 have HC:=Lib.hid hz
 clear hz HZ hty hry
 have p0:=blk_cell hN4 0 _ rfl
 have p1:=blk_cell hN4 1 _ rfl
 have p2:=blk_cell hN4 2 _ rfl
 have p3:=blk_cell hN4 3 _ rfl
 go_wp2_with fail
 refine CC.mono ?_
 rintro e w5 ⟨rfl,b5⟩
 have hN5:=hN4.below b5
 have hb5:=bel hb4 b5
 have hx5:=hx4.below b5
 clear CC p0 p1 p2 p3 hN4 hx4
 cases z
 ·go_wp2_with fail
  go_ret
  exact ⟨rfl,hb5⟩
 obtain ⟨c1,c2⟩:=K.check_keep HC.out.symm
 have p0:=blk_cell hN5 0 _ rfl
 have p1:=blk_cell hN5 1 _ rfl
 have p2:=blk_cell hN5 2 _ rfl
 have p3:=blk_cell hN5 3 _ rfl
 have CK:=keep47_any x LA ln lc lost w5 hx5 (hL.below hb5) (by omega) (by omega) HSR.out
 obtain ⟨kk,hkk⟩:∃ kk,kk=(K.keep34 x.nd x.l x.ss x.r lost).1:=⟨_,rfl⟩
 rw [c1,←hkk] at CK
 rw [←hkk] at c2
 clear hkk c1
 go_wp2_with fail
 refine CK.mono ?_
 rintro e w6 ⟨⟨KB,kn',kc',RB,rn',rc',d2,rfl,hK2,-⟩,b6⟩
 have hb6:=bel hb5 b6
 rw [c2] at hK2
 have hkn2:kn'≤1000000000:=by rw [hK2.1,←hK.1];exact hkn
 have CS:=sameInts28_any KB KA kn' kn kc' kc kept kept w6 hK2 (hK.below hb6) hkn2 hkn
 rw [decide_eq_true rfl] at CS
 clear CK p0 p1 p2 p3
 go_wp2_with fail
 refine CS.mono ?_
 rintro e w7 ⟨rfl,b7⟩
 go_wp2_with fail
 go_ret
 exact ⟨rfl,bel hb6 b7⟩
end Go.Proofs.YtippdjmpkafifaaGreat
namespace Go.Proofs.YtippdjmpkafifaaGreat
open Go.ChangeShapes Go.WideShapes Go.Deep Go.RowKit
section
variable {H : Type} {enc : TypeId × Value → H} {W : World} {base b0 : Nat} {spare : Nat → Bool} {held : Bool} {r : Reach}
set_option maxRecDepth 100000 in
theorem reasons_of_trod {fuel:Nat} {v:Value} {x:DataW H × List MemPlace} (hf:DataW.trod enc Tryz.prog W b0 spare held fuel 65 [v] = some x):∃ A n c l,v=.slice A n c∧Rsn W A n l∧∀ y ∈ l,y.n≤y.c∧∀ b ∈ y.bl,b.vn≤b.vc:=by
 rcases open_slice Tryz.underlying65k hf with ⟨hcs,_⟩ | ⟨a,len,cap,m,n,D,Pl,hcs,_,hlc,_,hm,_,hcell⟩
 ·simp at hcs
  subst hcs
  exact ⟨none,0,0,[],rfl,⟨⟨rfl,rfl,fun h0=>absurd h0 (by omega)⟩,fun q hq=>by cases hq⟩,fun q hq=>by cases hq⟩
 ·simp at hcs
  subst hcs
  have hC:Tryz.prog.cellsOf 28=1:=by kernel_rfl
  have hlm:len≤m:=by rw [hm];split <;> omega
  have key:∀ i,i < len→∃ q:RV,(Blks W q.A q.n q.bl∧(q.n≤q.c∧∀ b ∈ q.bl,b.vn≤b.vc))∧∀ j u,(RV.cells q)[j]? = some u→W.cell? (a.add (i * 1 + j))=some u:=by
   intro i hi
   obtain ⟨cs',hc,ht'⟩:=hcell i (by omega)
   rw [hC,Nat.mul_one] at hc
   obtain ⟨_,hcl,hat⟩:=World.cells?_some hc
   obtain ⟨v1,rfl⟩:=List.length_eq_one_iff.1 hcl
   obtain ⟨A1,m1,c1,l1,rfl,hB,hc1,hv⟩:=blks_of_trod ht'
   have h0:=hat 0 (by omega)
   rw [Go.Deep.add_add,Nat.add_zero] at h0
   refine ⟨⟨A1,m1,c1,l1⟩,⟨hB,hc1,hv⟩,?_⟩
   intro j u hu
   rcases j with _ | j <;> simp [RV.cells] at hu
   subst hu
   rw [Nat.mul_one,Nat.add_zero]
   exact h0
  obtain ⟨l,hl,hq⟩:=list_of key
  have hall:∀ q ∈ l,Blks W q.A q.n q.bl∧(q.n≤q.c∧∀ b ∈ q.bl,b.vn≤b.vc):=fun q hq'=>by
   obtain ⟨i,hi⟩:=List.mem_iff_getElem?.1 hq'
   exact (hq i q hi).1
  exact ⟨_,_,_,l,rfl,⟨⟨hl.symm,by rw [flat_len RV.cells 1 (fun _=>rfl),hl],fun _=>⟨a,rfl,flat_cell RV.cells 1 (fun _=>rfl) (by omega) fun i q hi=>(hq i q hi).2⟩⟩,fun q h=>(hall q h).1⟩,fun q h=>(hall q h).2⟩
set_option maxRecDepth 100000 in
theorem open_reasons {v:Value} {d:DataW H} {ps:List MemPlace} (hval:Value.okWide Tryz.prog W r base 65 v) (h:DataW.Trod enc Tryz.prog W b0 spare held 65 v d ps):∃ A n c l,v=.slice A n c∧Rsn W A n l∧∀ y ∈ l,y.n≤y.c∧∀ b ∈ y.bl,b.vn≤b.vc:=by
 obtain ⟨a0,len,cap,rfl⟩:=okWide_slice Tryz.underlying65k hval
 obtain ⟨fuel,hf⟩:=h
 exact reasons_of_trod hf
end
end Go.Proofs.YtippdjmpkafifaaGreat
