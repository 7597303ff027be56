import Derived.Test.YtippdjmpkafifaaGreatCP13
import Derived.Test.YtippdjmpkafifaaGreatCP11
import Derived.Test.YtippdjmpkafifaaGreatCP14
import Derived.Test.YtippdjmpkafifaaGreatCP7
namespace Go.Proofs.YtippdjmpkafifaaGreat
open Go.RowKit
def NB (w:World) (bl:List BV):Prop:=∀ y ∈ bl,(0 < y.vn→∀ ad,y.V=some ad→w.heap.size≤ad.block)∧(0 < y.ln→∀ ad,y.LA=some ad→w.heap.size≤ad.block)
theorem NB.snoc {w:World} {bl:List BV} (h:NB w bl) {y:BV} (h1:0 < y.vn→∀ ad,y.V=some ad→w.heap.size≤ad.block) (h2:0 < y.ln→∀ ad,y.LA=some ad→w.heap.size≤ad.block):NB w (bl ++ [y]):=fun z hz=>by
 rcases List.mem_append.1 hz with hz | hz
 ·exact h z hz
 ·rw [List.mem_singleton.1 hz];exact ⟨h1,h2⟩
def RetRefuteX (w w':World) (p:List (Int × List Int × List Lb)) (er:Int) (e:Ending):Prop :=
 (∃ A n c bl,e=.returned (.tuple #[.slice A n c,.int .i64 er])∧Blks w' A n bl∧n≤c∧FewB n bl∧bl.map BV.pr=p∧(∀ ad,A=some ad→w.heap.size≤ad.block)∧NB w bl)∧Below w.heap.size w w'
theorem retRefuteX_nil {w w':World} {er:Int} (hb:Below w.heap.size w w'):RetRefuteX w w' [] er (.returned (.tuple #[.slice none 0 0,.int .i64 er])) :=
 ⟨⟨none,0,0,[],rfl,⟨⟨rfl,rfl,fun h=>absurd h (by omega)⟩,fun y h=>by cases h⟩,Nat.le_refl _,⟨by omega,fun y h=>by cases h⟩,rfl,(fun ad e=>(by cases e)),(fun y h=>(by cases h))⟩,hb⟩
set_option maxRecDepth 100000 in
set_option maxHeartbeats 16000000 in
theorem refute32X (x:Cs) (w:World) (hx:CsAt w x) :
  Calls Tryz.prog 22 #[.agg #[.int .i64 x.nd,.slice x.A x.n x.c],.slice x.SA x.sn x.sc,.slice x.B x.m x.d] w fun e w'=>RetRefuteX w w' ((K.refute x.nd x.l x.ss x.r).1.map fun b=>((b.1:Int),b.2)) (K.refute x.nd x.l x.ss x.r).2 e:=by
 have hN:=Net.new w x.nd x.A x.n x.c
 have p0:=hN.c0
 have p1:=hN.c1
 have b0:Below w.heap.size w (w.alloc (.cells #[.int .i64 x.nd,.slice x.A x.n x.c] 24)):=(Below.refl _ _).alloc (Nat.le_refl _) _
 have CP:=plan32_any x _ (hx.below b0)
 go_enter Tryz.func22,Tryz.ntmps22
 go_wp2_with fail
 refine CP.mono ?_
 obtain ⟨ce,hce⟩:∃ ce,ce=(K.plan x.nd x.l x.ss x.r).2:=⟨_,rfl⟩
 rintro e w1 ⟨⟨PA,pn,pc,pl,rfl,-,-,-⟩,b1⟩
 rw [←hce]
 have hN1:=hN.below b1
 have hb1:=bel b0 b1
 clear p0 p1 b0 b1 hN CP
 by_cases hz:ce=0
 ·have HX:=Lib.hid (show K.refute x.nd x.l x.ss x.r=([],7) from K.refute_zero (by rw [←hce];exact hz))
  have hd:(ce == 0)=true:=by simp [hz]
  have hd2:decide (ce=0)=true:=by simp [hz]
  clear hce hz
  go_wp2_with fail
  go_ret2
  rw [HX.out]
  exact retRefuteX_nil hb1
 by_cases hz4:ce=4
 rotate_left
 ·have HX:=Lib.hid (show K.refute x.nd x.l x.ss x.r=([],ce) by rw [hce] at hz hz4 ⊢;exact K.refute_other hz hz4)
  have hd:(ce == 0)=false:=by simp [hz]
  have hd2:(ce == 4)=false:=by simp [hz4]
  clear hce hz hz4
  go_wp2_with fail
  go_ret2
  rw [HX.out]
  exact retRefuteX_nil hb1
 subst hz4
 have HR:=Lib.hid (K.refute_four hce.symm)
 have HOK:=Lib.hid (K.plan_four hce.symm)
 clear hce hz
 have p0:=hN1.c0
 have p1:=hN1.c1
 go_wp2_with fail
 refine (start32_any x _ (hx.below hb1) HOK.out).mono ?_
 rintro e w2 ⟨b,mb,gb,rfl,hp2⟩
 have hm6:x.m≤6:=by rw [hx.reqs.1];exact (K.pcheck_ok HOK.out).2.2.2.2
 have hsn4:x.sn≤4:=by rw [hx.shifts.1.1];exact (K.pcheck_ok HOK.out).2.1
 have HSN:=Lib.hid hx.shifts.1.1
 have HRN:=Lib.hid hx.reqs.1
 obtain ⟨shs,hshs⟩:∃ shs,shs=List.replicate x.sn (⟨none,0,0,[]⟩:Sh):=⟨_,rfl⟩
 rw [←hshs] at hp2
 obtain ⟨G0,hG0⟩:∃ G0,G0=w.heap.size:=⟨_,rfl⟩
 rw [←hG0] at hN1
 rw [←hG0]
 obtain ⟨B1,hB1⟩:∃ B1,B1=w2.heap.size:=⟨_,rfl⟩
 have hWB:=Lib.hid (show w.heap.size≤B1 by rw [hB1];exact Nat.le_trans hb1.size hp2.bw.size)
 clear p0 p1 hshs hG0
 go_wp2_with fail
 go_loopw [11,38] (fun v11 v38 wr=>∃ (s:Nat) (bl:List BV),v38=.int .i64 s∧s≤x.sn∧wr.ownsRow B1 90 3 v11 bl.length (bl.flatMap BV.cells)∧BlOk wr v11 bl∧NB w bl∧PlAt w1 wr b mb gb x (fun g=>v11.ownBlock=some g) shs∧B1≤wr.heap.size∧bl.length≤1000 * s∧Hid (bl.map BV.pr=K.blksUpto x.nd x.l x.ss x.r s)) (fun _ v38 _=>x.sn - (intOf v38).toNat)
 case atStart=>exact ⟨0,[],rfl,Nat.zero_le _,World.ownsRow_nil _ _ _ _,fun y hy=>(by cases hy),fun y hy=>(by cases hy),hp2.turn (fun g h=>(by cases h)),by rw [hB1];exact Nat.le_refl _,Nat.zero_le _,rfl⟩
 case round =>
  clear hp2 hB1
  obtain ⟨s,bl,rfl,hs,hown,hbo,hnb,hp,hBr,hbl,hcl⟩:=hrel
  by_cases hlt:s < x.sn
  ·obtain ⟨sS,hsS⟩:∃ sS,x.ss[s]? = some sS:=⟨_,List.getElem?_eq_getElem (by rw [←HSN.out];exact hlt)⟩
   have j0:decide ((s:Int) < (x.sn:Int))=true:=by simp;omega
   have HSS:=Lib.hid hsS
   clear hsS
   obtain ⟨ws,hws⟩:∃ ws,ws=wr:=⟨_,rfl⟩
   rw [←hws] at hown hbo hp hBr
   rw [←hws]
   clear hws
   obtain ⟨BS,hBS⟩:∃ BS,BS=ws.heap.size:=⟨_,rfl⟩
   obtain ⟨FE,hFE⟩:∃ FE,FE=K.feas x.nd x.l x.ss x.r s:=⟨_,rfl⟩
   have HFE:=Lib.hid hFE
   clear hFE
   go_wp2_with fail
   go_loopw [13,43] (fun v13 v43 wi=>∃ (k:Nat) (own:List Sh),v43=.int .i64 k∧k≤x.m∧wi.ownsRow BS 48 1 v13 own.length (own.map Sh.val)∧RowOk wi v13 own∧NewL BS own∧(∀ y ∈ own,y.n≤6)∧PlAt w1 wi b mb gb x (fun g=>u11.ownBlock=some g∨v13.ownBlock=some g) shs∧ws.grownBy wi (some mb)∧own.length≤64 * k∧Hid (own.map Sh.l=A.ownGo FE [] (A.upto x.m k))) (fun _ v43 _=>x.m - (intOf v43).toNat)
   case atStart=>exact ⟨0,[],rfl,Nat.zero_le _,World.ownsRow_nil _ _ _ _,fun y hy=>(by cases hy),fun y hy=>(by cases hy),fun y hy=>(by cases hy),hp.turn (fun g h=>h.elim .inl fun e=>(by cases e)),⟨rfl,rfl,rfl,Nat.le_refl _,fun _ _ _=>rfl⟩,Nat.zero_le _,rfl⟩
   case round =>
    obtain ⟨k,own,rfl,hk,hownO,hroO,hnwO,h6O,hpO,hgO,hlO,hcO⟩:=hrel
    obtain ⟨wk,hwk⟩:∃ wk,wk=wr:=⟨_,rfl⟩
    rw [←hwk] at hownO hroO hpO hgO
    rw [←hwk]
    clear hwk
    by_cases hkm:k < x.m
    ·have k0:decide ((k:Int) < (x.m:Int))=true:=by simp;omega
     obtain ⟨kk,hkk⟩:∃ kk,kk=k + 1:=⟨_,rfl⟩
     have ks:IntKind.i64.wrap ((k:Int) + 1)=(kk:Int):=by rw [IntWalk.i64_in _ (by omega)];omega
     have CS:=sets35_any x.m hm6 kk 0 wk (by omega) (by omega)
     rw [show ((0:Nat):Int)=0 from rfl] at CS
     have HKK:=Lib.hid hkk
     have hDl:(A.combos x.m kk 0).length≤64:=A.combos_few hm6 (by omega) (by omega)
     obtain ⟨D,hD⟩:∃ D,D=A.combos x.m kk 0:=⟨_,rfl⟩
     rw [←hD] at CS hDl
     have HD:=Lib.hid hD
     clear hkk hD
     go_wp2_with fail
     refine CS.mono ?_
     rintro e wl ⟨⟨E,m,c,l,rfl,hSl,hmc,hlD,hEn,hln⟩,bl2⟩
     have hml:m≤64:=by rw [hSl.1.1,←List.length_map (f:=Sh.l),hlD];exact hDl
     have hl6:∀ t ∈ l,t.n≤6∧t.l.Pairwise (· < ·)∧∀ i ∈ t.l,0≤i∧i < (x.m:Int):=fun t ht=>by
      have h9:t.l ∈ A.combos x.m kk 0:=by rw [←HD.out,←hlD];exact List.mem_map_of_mem ht
      obtain ⟨h1,h2,h3⟩:=A.mem_combos.1 h9
      have h4:=(hSl.2 t ht).1.1
      have:=HKK.out
      exact ⟨by omega,h2,fun i hi=>by have:=h3 i hi;omega⟩
     have hoffE:OffRow E m u13:=fun _ ad e e2=>by
      have h1:=(own_in hownO _ e2).2
      have h2:=hEn ad e
      omega
     have hroE:RowOk wl u13 l:=fun t ht=>⟨hSl.2 t ht,fun h0 ad e e2=>by
      have h1:=(own_in hownO _ e2).2
      have h2:=hln t ht h0 ad e
      omega⟩
     have hownL:=own_below hownO bl2
     have hroL:=hroO.below bl2
     have hpL:=hpO.below bl2
     have hgL:ws.grownBy wl (some mb):=hgO.andThen (row':=none) ⟨bl2.os,bl2.tape,bl2.output,bl2.size,fun q hq _=>bl2.block q hq⟩ (fun _ e=>by cases e)
     have hnE:NewL BS l:=hln.mono (by rw [hBS];exact hgO.size)
     clear CS hownO hroO hpO hgO hEn hln bl2
     go_wp2_with fail
     go_loopw [13,52] (fun v13 v52 wj=>∃ (j:Nat) (own':List Sh),v52=.int .i64 j∧j≤m∧Mid w1 ws wj b mb gb x shs u11 v13 BS own' E m l∧NewL BS own'∧(∀ y ∈ own',y.n≤6)∧own'.length≤own.length + j∧Hid (own'.map Sh.l=A.ownGo FE [] (A.upto x.m k ++ (l.take j).map Sh.l))) (fun _ v52 _=>m - (intOf v52).toNat)
     case atStart=>exact ⟨0,own,rfl,Nat.zero_le _,⟨hownL,hroL,hpL,hgL,hSl,hoffE,hroE⟩,hnwO,h6O,Nat.le_refl _,by show _=_;rw [List.take_zero,List.map_nil,List.append_nil];exact hcO.out⟩
     case round =>
      clear hownL hroL hnwO h6O hpL hgL hoffE hroE hSl
      obtain ⟨j,own',rfl,hj,M,hnwI,h6I,hlI,hcI⟩:=hrel
      by_cases hjm:j < m
      ·obtain ⟨E2,c2,rfl,hS2,hc2,-⟩:=own_shs M.row rfl M.ok
       obtain ⟨ad,t,rfl,hg,⟨hI,hsc,hs0⟩,hc⟩:=M.sh.at_ hjm
       obtain ⟨wj,hwj⟩:∃ wj,wj=wr:=⟨_,rfl⟩
       rw [←hwj] at M hS2 hI hc
       rw [←hwj]
       clear hwj
       have j0:decide ((j:Int) < (m:Int))=true:=by simp;omega
       have js:IntKind.i64.wrap ((j:Int) + 1)=((j + 1:Nat):Int):=by rw [IntWalk.i64_in _ (by omega)];omega
       have htm:=List.mem_of_getElem? hg
       obtain ⟨h6,hso,hbd⟩:=hl6 t htm
       have hbd':∀ i ∈ t.l,0≤i∧i < (x.r.length:Int):=fun i hi=>by have:=hbd i hi;have:=HRN.out;omega
       have bA:Below wj.heap.size wj (wj.alloc (.cells #[.slice t.A t.n t.c] 48)):=(Below.refl _ _).alloc (Nat.le_refl _) _
       have hG:=heap_alloc_new wj (.cells #[.slice t.A t.n t.c] 48)
       have CC:=contains36_any wj.heap.size E2 own'.length c2 own' t.A t.n t.c t.l (wj.alloc (.cells #[.slice t.A t.n t.c] 48)) (hS2.below bA) (by omega) hG (fun y hy=>by have:=h6I y hy;omega) (hI.below bA) (by omega)
       have HTM:=Lib.hid htm
       have HSB:=Lib.hid (And.intro hso hbd')
       have HG:=Lib.hid hg
       have HLI:=Lib.hid hlI
       have htk:(l.take (j + 1)).map Sh.l=(l.take j).map Sh.l ++ [t.l]:=by rw [List.take_add_one,hg,List.map_append];rfl
       have HTK:=Lib.hid htk
       have hxsz:∀ g,(u11.ownBlock=some g∨(Value.slice E2 own'.length c2).ownBlock=some g)→g < wj.heap.size:=fun g e=>e.elim (fun e=>by have h1:=(own_in hown g e).2;have h2:=M.gr.size;omega) (fun e=>(own_in M.row g e).2)
       have HXS:=Lib.hid hxsz
       clear hg hlI htm hso hbd hbd' htk hxsz
       go_wp2_with fail
       refine CC.mono ?_
       rintro e wc ⟨rfl,bc⟩
       have M1:=(M.below bA).below bc
       have hG1:=blk_below bc hG
       have hI1:=(hI.below bA).below bc
       have bAC:=bel bA bc
       have cG:=blk_cell hG1 0 _ rfl
       clear CC M hG hI bA bc hS2 hc
       obtain ⟨z,hz⟩:∃ z,z=(own'.map Sh.l).any fun u=>A.part u t.l:=⟨_,rfl⟩
       rw [←hz]
       have HZ:=Lib.hid hz
       clear hz
       cases z with
       | true =>
        have HN:=Lib.hid (A.ownGo_no (ok:=FE) (own:=[]) (L:=A.upto x.m k ++ (l.take j).map Sh.l) (v:=t.l) (.inl (by rw [←hcI.out];exact HZ.out.symm)))
        go_wp2_with fail
        go_roundw
        case rel=>exact ⟨j + 1,own',by go_num,by omega,M1,hnwI,h6I,by have:=HLI.out;omega,by show _=_;rw [HTK.out,←List.append_assoc,HN.out];exact hcI.out⟩
        case measure=>simp [intOf];omega
       | false =>
        have CB:=best32_any w1 b mb gb x shs s sS t.A t.n t.c t.l wc M1.pl (fun g e=>Nat.lt_of_lt_of_le (HXS.out g e) bAC.size) HSS.out hI1 hsc HSB.out.1 HSB.out.2
        have hfe:FE t.l=(K.best x.nd x.l sS x.r t.l).isSome:=by
         rw [HFE.out,Bool.eq_iff_iff,K.feas_iff M1.pl.ok HSB.out.1 HSB.out.2,Option.isSome_iff_exists]
         exact ⟨fun ⟨s2,t2,e1,e2⟩=>by rw [HSS.out] at e1;injection e1 with e1;subst e1;exact ⟨t2,e2⟩,fun ⟨t2,e2⟩=>⟨sS,t2,HSS.out,e2⟩⟩
        obtain ⟨T,hT⟩:∃ T,T=K.best x.nd x.l sS x.r t.l:=⟨_,rfl⟩
        rw [←hT] at CB hfe
        have HFT:=Lib.hid hfe
        clear hT hfe
        go_wp2_with fail
        refine CB.mono ?_
        rintro e wb ⟨⟨u',rfl,hTA⟩,hgb,hpb⟩
        have hGb:=(M1.pl.memo.ext hgb).cells _ _ _ _ hG1
        have M2:=M1.best hgb hpb
        have cGb:=blk_cell hGb 0 _ rfl
        clear CB hgb hpb M1 hG1 hI1 cG bAC
        cases T with
        | some bt =>
         obtain ⟨g,A8,n8,c8,A7,n7,c7,rfl,-⟩:=hTA
         have HN:=Lib.hid (A.ownGo_no (ok:=FE) (own:=[]) (L:=A.upto x.m k ++ (l.take j).map Sh.l) (v:=t.l) (.inr HFT.out))
         go_wp2_with fail
         go_roundw
         case rel=>exact ⟨j + 1,own',by go_num,by omega,M2,hnwI,h6I,by have:=HLI.out;omega,by show _=_;rw [HTK.out,←List.append_assoc,HN.out];exact hcI.out⟩
         case measure=>simp [intOf];omega
        | none =>
         obtain rfl:u'=.pointer none:=hTA
         have HN:=Lib.hid (A.ownGo_yes (ok:=FE) (own:=[]) (L:=A.upto x.m k ++ (l.take j).map Sh.l) (v:=t.l) (by rw [←hcI.out];exact HZ.out.symm) HFT.out)
         have hbs:BS≤wb.heap.size:=by have h2:=M2.gr.size;omega
         have bD:Below wb.heap.size wb (wb.alloc (.cells #[.slice t.A t.n t.c] 48)):=(Below.refl _ _).alloc (Nat.le_refl _) _
         have M3:=M2.below bD
         have hbs2:=Nat.le_trans hbs bD.size
         have hln:own'.length≤1000000:=by have:=HLI.out;omega
         clear M2 hGb
         go_wp2_with (at_builtin;refine app_shs rfl (.tmp 67) (.tmp 69) rfl BS (.slice E2 own'.length c2) own'.length own' rfl M3.row wb.heap.size t rfl (heap_alloc_new wb _) hln hbs2 ?_;intro v' w6 hown6 hgrow6 hat6)
         have M4:=M3.app HTM.out hgrow6 hat6 hown6 hBS
         clear M3 hown6 hgrow6 hat6 bD cGb
         go_roundw
         case rel=>exact ⟨j + 1,own' ++ [t],by go_num,by omega,M4,hnwI.snoc (hnE t HTM.out),fun y hy=>(List.mem_append.1 hy).elim (h6I y) (fun hy=>by rw [List.mem_singleton] at hy;rw [hy];exact h6),by rw [List.length_append];have:=HLI.out;simp;omega,by show _=_;rw [HTK.out,←List.append_assoc,HN.out,List.map_append,hcI.out];rfl⟩
         case measure=>simp [intOf];omega
      ·have j0:decide ((j:Int) < (m:Int))=false:=by simp;omega
       have hjm2:l.take j=l:=List.take_of_length_le (by have:=M.sh.1.1;omega)
       have HE:=Lib.hid (show own'.map Sh.l=A.ownGo FE [] (A.upto x.m kk) by rw [hcI.out,hjm2,hlD,HD.out,HKK.out,A.upto_succ])
       have HLI:=Lib.hid hlI
       clear hjm2 hlI
       go_wp2_with fail
       go_roundw
       case rel=>exact ⟨kk,own',rfl,by rw [HKK.out];omega,M.row,M.ok,hnwI,h6I,M.pl,M.gr,by have:=HLI.out;have:=HKK.out;omega,HE.out⟩
       case measure=>simp [intOf];have:=HKK.out;omega
    ·have k0:decide ((k:Int) < (x.m:Int))=false:=by simp;omega
     have hkm2:k=x.m:=by omega
     have HOWN:=Lib.hid (show own.map Sh.l=A.own FE x.m by rw [hcO.out,hkm2];rfl)
     obtain ⟨E,c,rfl,hSE,hnc,hEn⟩:=own_shs hownO rfl hroO
     clear hkm2
     have F0:Fin4 w1 wk b mb gb x shs u11 B1 bl E own.length own:=⟨hown.kept hgO (.inr fun e=>(hp.away mb e).2.2.1 rfl),hbo.ext (hp.memo.ext hgO),hpO.turn (fun g h=>.inl (.inl h)),hSE,fun h0 ad e e2=>(by have h1:=(own_in hown _ e2).2;have h2:=hEn ad e;omega),fun t ht=>⟨(hroO t ht).1,fun h0 ad e e2=>(by have h1:=(own_in hown _ e2).2;have h2:=hnwO t ht h0 ad e;omega)⟩⟩
     have hB1k:B1≤wk.heap.size:=by have:=hgO.size;omega
     have hol:own.length≤384:=by omega
     have HNW:=Lib.hid (show NewL w.heap.size own from hnwO.mono (by rw [hBS];exact Nat.le_trans hWB.out hBr))
     clear hown hbo hp hownO hroO hpO hgO hSE hEn hnwO hcO hBr
     go_wp2_with fail
     clear k0
     go_loopw [11,75] (fun v11 v75 wf=>∃ (j:Nat) (bl':List BV),v75=.int .i64 j∧j≤own.length∧Fin4 w1 wf b mb gb x shs v11 B1 bl' E own.length own∧NB w bl'∧B1≤wf.heap.size∧bl'.length=bl.length + j∧Hid (bl'.map BV.pr=bl.map BV.pr ++ (own.take j).map fun t=>((s:Int),t.l,K.labs x.nd x.l sS x.r t.l))) (fun _ v75 _=>own.length - (intOf v75).toNat)
     case atStart=>exact ⟨0,bl,rfl,Nat.zero_le _,F0,hnb,hB1k,rfl,by show _=_;rw [List.take_zero,List.map_nil,List.append_nil]⟩
     case round =>
      clear F0 hB1k
      obtain ⟨j,bl',rfl,hj,F,hnf,hBf,hlb,hcb⟩:=hrel
      obtain ⟨wf,hwf⟩:∃ wf,wf=wr:=⟨_,rfl⟩
      rw [←hwf] at F hBf
      rw [←hwf]
      clear hwf
      by_cases hjn:j < own.length
      ·obtain ⟨adE,t,rfl,hg,⟨hI,hsc,hs0⟩,hc⟩:=F.sh.at_ hjn
       obtain ⟨ads,s2,hSA,hs2,-,s0,s1,s2',s3,s4,s5⟩:=F.pl.case.shifts.at_ hlt
       rw [HSS.out] at hs2
       injection hs2 with hs2
       subst hs2
       rw [hSA]
       have hAt:At wf (x.one sS):=F.pl.one (List.mem_of_getElem? HSS.out)
       have SP:∀ w8:World,Below w1.heap.size w1 w8→(fun w':World=>w'.cell? ⟨G0,0,none⟩=some (.int .i64 x.nd)∧w'.cell? ⟨G0,1,none⟩=some (.slice x.A x.n x.c)∧w'.cell? (ads.add (s * 6))=some (.int .i64 sS.day)∧w'.cell? ⟨(ads.add (s * 6)).block,(ads.add (s * 6)).off + 1,none⟩=some (.int .i64 sS.depot)∧w'.cell? ⟨(ads.add (s * 6)).block,(ads.add (s * 6)).off + 2,none⟩=some (.int .i64 sS.start)∧w'.cell? ⟨(ads.add (s * 6)).block,(ads.add (s * 6)).off + 3,none⟩=some (.int .i64 sS.end_)∧w'.cell? ⟨(ads.add (s * 6)).block,(ads.add (s * 6)).off + 4,none⟩=some (.int .i64 sS.tare)∧w'.cell? ⟨(ads.add (s * 6)).block,(ads.add (s * 6)).off + 5,none⟩=some (.slice sS.A sS.n sS.c)) w8:=fun w8 hb=>⟨(hN1.below hb).c0,(hN1.below hb).c1,(hb.cell (cell_lt s0)).trans s0,(hb.cell (cell_lt s1)).trans s1,(hb.cell (cell_lt s2')).trans s2',(hb.cell (cell_lt s3)).trans s3,(hb.cell (cell_lt s4)).trans s4,(hb.cell (cell_lt s5)).trans s5⟩
       have S0:=SP wf F.pl.bw
       have S0d:=SP wf.drew (bel F.pl.bw (Below.refl _ _).drew)
       have hbdr:Below wf.heap.size wf wf.drew:=(Below.refl _ _).drew
       have j0:decide ((j:Int) < (own.length:Int))=true:=by simp;omega
       have js:IntKind.i64.wrap ((j:Int) + 1)=((j + 1:Nat):Int):=by rw [IntWalk.i64_in _ (by omega)];omega
       have htm:=List.mem_of_getElem? hg
       have h6:=h6O t htm
       have htk:(own.take (j + 1)).map (fun t=>((s:Int),t.l,K.labs x.nd x.l sS x.r t.l))=(own.take j).map (fun t=>((s:Int),t.l,K.labs x.nd x.l sS x.r t.l)) ++ [((s:Int),t.l,K.labs x.nd x.l sS x.r t.l)]:=by rw [List.take_add_one,hg,List.map_append];rfl
       have HTK:=Lib.hid htk
       have HLB:=Lib.hid hlb
       have HSA:=Lib.hid hSA
       have hofft:OffRow t.A t.n u11:=fun h0 ad e=>(F.lk t htm).2 h0 ad e
       clear hg htk hlb hSA s0 s1 s2' s3 s4 s5
       go_upto_region 26 with fail
       have k0:(0:Int)≤(s:Int):=by omega
       have k1:(s:Int) < (x.sn:Int):=by omega
       have h69:t.n≤1000000000:=by omega
       have hvl:t.l.length≤6:=by rw [←hI.1];exact h6
       have hln:bl'.length≤1000000:=by have:=HLB.out;omega
       go_region_held3 (fun w':World=>w'.cell? ⟨G0,0,none⟩=some (.int .i64 x.nd)∧w'.cell? ⟨G0,1,none⟩=some (.slice x.A x.n x.c)∧w'.cell? (ads.add (s * 6))=some (.int .i64 sS.day)∧w'.cell? ⟨(ads.add (s * 6)).block,(ads.add (s * 6)).off + 1,none⟩=some (.int .i64 sS.depot)∧w'.cell? ⟨(ads.add (s * 6)).block,(ads.add (s * 6)).off + 2,none⟩=some (.int .i64 sS.start)∧w'.cell? ⟨(ads.add (s * 6)).block,(ads.add (s * 6)).off + 3,none⟩=some (.int .i64 sS.end_)∧w'.cell? ⟨(ads.add (s * 6)).block,(ads.add (s * 6)).off + 4,none⟩=some (.int .i64 sS.tare)∧w'.cell? ⟨(ads.add (s * 6)).block,(ads.add (s * 6)).off + 5,none⟩=some (.slice sS.A sS.n sS.c))
        (first | with_reducible exact S10 | with_reducible exact S9a | with_reducible exact S9 | with_reducible exact S0d | with_reducible exact S0 | fail)
        (first
         | (go_at_call 78;refine (labels39_new (x.one sS) t.A t.n t.c t.l _ (hAt.below hbdr) (hI.below hbdr) hsc h69).mono ?_;rintro e w9 ⟨⟨LA,ln,lc,rfl,hL9,hLn9⟩,b9⟩;have F9:=F.below (bel hbdr b9);have hB9:B1≤w9.heap.size:=Nat.le_trans hBf (bel hbdr b9).size;have a9:Below w9.heap.size w9 (w9.alloc (.cells #[.int .i64 (s:Int),.slice t.A t.n t.c,.slice LA ln lc] 90)):=(Below.refl _ _).alloc (Nat.le_refl _) _;have S9:=SP w9 F9.pl.bw;have S9a:=SP _ (F9.below a9).pl.bw;have hoL:OffRow LA ln u11:=fun h0 ad e e2=>(by have h1:=(own_in F.row _ e2).2;have h2:=hLn9 ad e;have h3:=hbdr.size;omega);have hll:ln≤384:=(by have h1:=hL9.1;have h2:(K.labs x.nd x.l sS x.r t.l).length≤384:=K.labs_len6 hvl;have h3:ln=(K.labs x.nd x.l sS x.r t.l).length:=h1;omega))
         | (refine step_app_blk rfl (.tmp 79) (.tmp 91) rfl F9.row hB9 rfl w9.heap.size ⟨s,t.A,t.n,t.c,t.l,LA,ln,lc,K.labs x.nd x.l sS x.r t.l⟩ rfl a9 (heap_alloc_new w9 _) hln ?_;intro v' w10 hown10 hgrow10 hat10;have F10:=(F9.below a9).app ⟨⟨(hI.below (bel hbdr b9)).below a9,Lst.below hL9 a9⟩,hofft,hoL,hsc,h6,hll⟩ hgrow10 hat10 hown10;have S10:=SP w10 F10.pl.bw)
         | fail)
       have hB10:B1≤w10.heap.size:=by have h1:=hgrow10.size;have h2:=a9.size;omega
       have hnf2:NB w (bl' ++ [(⟨s,t.A,t.n,t.c,t.l,LA,ln,lc,K.labs x.nd x.l sS x.r t.l⟩:BV)]):=hnf.snoc (fun h0 ad e=>HNW.out t htm h0 ad e) (fun _ ad e=>by have h1:=hLn9 ad e;have h2:=F.pl.bw.size;have h3:=hb1.size;have h4:=hbdr.size;omega)
       clear F F9 S0 S0d S9 S9a S10 SP hL9 hLn9 a9 b9 hown10 hgrow10 hat10 hbdr hAt hc hI
       go_wp2_with fail
       go_roundw
       case rel=>exact ⟨j + 1,bl' ++ [⟨s,t.A,t.n,t.c,t.l,LA,ln,lc,K.labs x.nd x.l sS x.r t.l⟩],by go_num,by omega,F10,hnf2,hB10,by rw [List.length_append,HLB.out];simp;omega,by show _=_;rw [HTK.out,←List.append_assoc,←hcb.out,List.map_append];rfl⟩
       case measure=>simp [intOf];omega
      ·have j0:decide ((j:Int) < (own.length:Int))=false:=by simp;omega
       have ks:IntKind.i64.wrap ((s:Int) + 1)=((s + 1:Nat):Int):=by rw [IntWalk.i64_in _ (by omega)];omega
       have hjn2:own.take j=own:=List.take_of_length_le (by omega)
       have HNX:=Lib.hid (show bl'.map BV.pr=K.blksUpto x.nd x.l x.ss x.r (s + 1) by
        rw [K.blksUpto_succ,←hcl.out,hcb.out,hjn2,←HRN.out,←HFE.out,←HOWN.out,List.map_map]
        congr 1
        refine List.map_congr_left fun t _=>?_
        show _=((s:Int),t.l,_)
        rw [HSS.out])
       have HLB:=Lib.hid hlb
       clear hjn2 hlb
       go_wp2_with fail
       go_roundw
       case rel=>exact ⟨s + 1,bl',by go_num,hlt,F.row,F.ok,hnf,F.pl,hBf,by have:=HLB.out;omega,HNX.out⟩
       case measure=>simp [intOf];omega
  ·have hse:s=x.ss.length:=by have:=HSN.out;omega
   have j0:decide ((s:Int) < (x.sn:Int))=false:=by simp;omega
   obtain ⟨A9,c9,rfl,hRd,hF9⟩:=own_form hown
   have hnc9:bl.length≤c9:=by
    obtain ⟨-,⟨e,e0⟩ | ⟨g',cap,cur,e,-,-,h9,-⟩⟩:=hown
    ·rw [e0];exact Nat.zero_le _
    ·injection e with e1 e2 e3;rw [e3];exact h9
   have HB:=Lib.hid (show bl.map BV.pr=(K.refute x.nd x.l x.ss x.r).1.map fun b=>((b.1:Int),b.2) by rw [HR.out,K.blksUpto_all,←hse];exact hcl.out)
   have HX:=Lib.hid (show (K.refute x.nd x.l x.ss x.r).2=0 by rw [HR.out])
   have hbn:bl.length≤1000000000:=by omega
   clear hse hown
   go_wp2_with fail
   go_ret2
   rw [HX.out]
   exact ⟨⟨A9,bl.length,c9,bl,rfl,⟨⟨rfl,hRd⟩,fun y hy=>(hbo y hy).1⟩,hnc9,⟨hbn,fun y hy=>by obtain ⟨-,-,-,h1,h2,h3⟩:=hbo y hy;exact ⟨h1,by omega,by omega⟩⟩,HB.out,fun ad e=>Nat.le_trans hWB.out (hF9 _ (by rw [e];rfl)).1,hnb⟩,bel hb1 hp.bw⟩
theorem refute32_any (x:Cs) (w:World) (hx:CsAt w x) :
  Calls Tryz.prog 22 #[.agg #[.int .i64 x.nd,.slice x.A x.n x.c],.slice x.SA x.sn x.sc,.slice x.B x.m x.d] w fun e w'=>RetRefute w w' ((K.refute x.nd x.l x.ss x.r).1.map fun b=>((b.1:Int),b.2)) (K.refute x.nd x.l x.ss x.r).2 e :=
 (refute32X x w hx).mono fun _ _ ⟨⟨A,n,c,bl,h1,h2,h3,h4,h5,_,_⟩,hb⟩=>⟨⟨A,n,c,bl,h1,h2,h3,h4,h5⟩,hb⟩
def Ft (A:Option Addr) (n:Nat) (g:Nat):Prop:=0 < n∧∃ ad,A=some ad∧ad.block=g
def Sm (w w':World) (U:Nat→Prop):Prop:=∀ g,U g→g < w.heap.size→w'.heap[g]? = w.heap[g]?
theorem Rd.sm {w w':World} {s n:Nat} {A:Option Addr} {xs:List Value} (h:Rd w s A n xs) (hs:Sm w w' (Ft A n)):Rd w' s A n xs:=by
 refine ⟨h.1,fun h0=>?_⟩
 obtain ⟨ad,e,hc⟩:=h.2 h0
 refine ⟨ad,e,fun j u hu=>?_⟩
 have c:=hc j u hu
 have hl:=cell_lt c
 rw [add_block] at hl
 exact (World.cell?_of_block (by rw [add_block];exact hs _ ⟨h0,ad,e,rfl⟩ hl)).trans c
theorem Rd.ft_lt {w:World} {s n:Nat} {A:Option Addr} {xs:List Value} (h:Rd w s A n xs) (h0s:0 < s) {g:Nat} (hg:Ft A n g):g < w.heap.size:=by
 obtain ⟨h0,ad,e,rfl⟩:=hg
 obtain ⟨ad',e',hc⟩:=h.2 h0
 rw [e] at e'
 injection e' with e'
 subst e'
 have hl:0 < xs.length:=by rw [h.1];exact Nat.mul_pos h0 h0s
 have c:=hc 0 _ (List.getElem?_eq_getElem hl)
 have:=cell_lt c
 rwa [add_block] at this
theorem Sm.mono {w w':World} {U V:Nat→Prop} (h:Sm w w' U) (hV:∀ g,V g→U g):Sm w w' V:=fun g hg=>h g (hV g hg)
theorem Sm.grown {w w':World} {U:Nat→Prop} {v:Value} (hg:w.grownBy w' v.ownBlock) (h:∀ g,U g→v.ownBlock ≠ some g):Sm w w' U:=fun g hu hl=>hg.block g hl fun e=>h g hu e.symm
def UT (A:Option Addr) (n:Nat) (ts:List TV) (g:Nat):Prop:=Ft A n g∨∃ y ∈ ts,Ft y.A y.n g∨Ft y.A' y.n' g
def UB (A:Option Addr) (n:Nat) (bl:List BV) (g:Nat):Prop:=Ft A n g∨∃ y ∈ bl,Ft y.V y.vn g∨Ft y.LA y.ln g
theorem Tours.sm {w w':World} {A:Option Addr} {n:Nat} {ts:List TV} (h:Tours w A n ts) (hs:Sm w w' (UT A n ts)):Tours w' A n ts :=
 ⟨⟨h.1.1,h.1.2.sm (hs.mono fun _ e=>.inl e)⟩,fun y hy=>⟨⟨(h.2 y hy).1.1,(h.2 y hy).1.2.sm (hs.mono fun _ e=>.inr ⟨y,hy,.inl e⟩)⟩,⟨(h.2 y hy).2.1,(h.2 y hy).2.2.sm (hs.mono fun _ e=>.inr ⟨y,hy,.inr e⟩)⟩⟩⟩
theorem Tours.ft_lt {w:World} {A:Option Addr} {n:Nat} {ts:List TV} (h:Tours w A n ts) {g:Nat} (hg:UT A n ts g):g < w.heap.size:=by
 rcases hg with e | ⟨y,hy,e | e⟩
 ·exact h.1.2.ft_lt (by decide) e
 ·exact (h.2 y hy).1.2.ft_lt (by decide) e
 ·exact (h.2 y hy).2.2.ft_lt (by decide) e
structure RV where
 A:Option Addr
 n:Nat
 c:Nat
 bl:List BV
def RV.cells (y:RV):List Value:=[.slice y.A y.n y.c]
def RV.pr (y:RV):List (Int × List Int × List Lb):=y.bl.map BV.pr
theorem bel_alloc0 (w:World) (o:Obj):Below w.heap.size w (w.alloc o):=(Below.refl _ _).alloc (Nat.le_refl _) _
namespace K
theorem iota_succ (n:Nat):iota (n + 1)=iota n ++ [(n:Int)]:=by unfold iota;rw [List.range_succ,List.map_append];rfl
end K
def boolCells (b:Bool):List Value:=[.bool b]
def Bools (w:World) (A:Option Addr) (n:Nat) (l:List Bool):Prop:=Lst boolCells 1 w A n l
structure BB where
 A:Option Addr
 n:Nat
 c:Nat
 ts:List TV
 O:Option Addr
 m:Nat
 k:Nat
 ok:List Bool
def BB.cells (y:BB):List Value:=[.slice y.A y.n y.c,.slice y.O y.m y.k]
def BB.Has (w:World) (y:BB):Prop:=Tours w y.A y.n y.ts∧Bools w y.O y.m y.ok
def UBB (y:BB) (g:Nat):Prop:=UT y.A y.n y.ts g∨Ft y.O y.m g
theorem BB.Has.below {w w':World} {y:BB} (h:y.Has w) (hb:Below w.heap.size w w'):y.Has w':=⟨h.1.below hb,Lst.below h.2 hb⟩
theorem BB.Has.sm {w w':World} {y:BB} (h:y.Has w) (hs:Sm w w' (UBB y)):y.Has w':=⟨h.1.sm (hs.mono fun _ e=>.inl e),h.2.1,h.2.2.sm (hs.mono fun _ e=>.inr e)⟩
theorem BB.Has.lt {w:World} {y:BB} (h:y.Has w) {g:Nat} (hg:UBB y g):g < w.heap.size:=by
 rcases hg with e | e
 ·exact h.1.ft_lt e
 ·exact h.2.2.ft_lt (by decide) e
theorem Ints.smT {w w':World} {A:Option Addr} {n:Nat} {l:List Int} (h:Ints w A n l) (hs:Sm w w' (Ft A n)):Ints w' A n l:=⟨h.1,h.2.sm hs⟩
theorem row_keep {w w':World} {base:Nat} {e:TypeId} {size n:Nat} {v:Value} {xs:List Value} (h:w.ownsRow base e size v n xs) (hs:∀ g,v.ownBlock=some g→w'.heap[g]? = w.heap[g]?):w'.ownsRow base e size v n xs:=by
 obtain ⟨hl,h1 | ⟨g,cap,cur,hv,hbg,hh,r⟩⟩:=h
 ·exact ⟨hl,.inl h1⟩
 ·exact ⟨hl,.inr ⟨g,cap,cur,hv,hbg,(hs g (by rw [hv];rfl)).trans hh,r⟩⟩
structure BRow (w:World) (B:Nat) (v:Value) (L:List BB):Prop where
 row:w.ownsRow B 111 2 v L.length (L.flatMap BB.cells)
 has:∀ y ∈ L,y.Has w
 off:∀ y ∈ L,∀ g,UBB y g→B≤g∧v.ownBlock ≠ some g
theorem BRow.nil (w:World) (B:Nat):BRow w B (.slice none 0 0) []:=⟨World.ownsRow_nil _ _ _ _,fun y h=>(by cases h),fun y h=>(by cases h)⟩
theorem BRow.below {w w':World} {B:Nat} {v:Value} {L:List BB} (h:BRow w B v L) (hb:Below w.heap.size w w'):BRow w' B v L:=⟨own_below h.row hb,fun y hy=>(h.has y hy).below hb,h.off⟩
theorem BRow.app {w w':World} {B:Nat} {v v':Value} {L:List BB} (h:BRow w B v L) {y:BB} (hy:y.Has w) (ho:∀ g,UBB y g→B≤g∧v.ownBlock ≠ some g) (hg:w.grownBy w' v.ownBlock) (ha:v'.ownBlock=v.ownBlock∨v'.ownBlock=some w.heap.size) (hr:w'.ownsRow B 111 2 v' (L.length + 1) ((L ++ [y]).flatMap BB.cells)):BRow w' B v' (L ++ [y]):=by
 have key:∀ z:BB,z.Has w→(∀ g,UBB z g→B≤g∧v.ownBlock ≠ some g)→z.Has w'∧∀ g,UBB z g→B≤g∧v'.ownBlock ≠ some g:=fun z hz hoz =>
  ⟨hz.sm (Sm.grown hg fun g e=>(hoz g e).2),fun g e=>⟨(hoz g e).1,fun e2=>by
   rcases ha with e3 | e3
   ·exact (hoz g e).2 (e3.symm.trans e2)
   ·rw [e3] at e2
    injection e2 with e2
    have:=hz.lt e
    omega⟩⟩
 refine ⟨by rw [List.length_append];exact hr,fun z hz=>?_,fun z hz=>?_⟩
 ·rcases List.mem_append.1 hz with hz | hz
  ·exact (key z (h.has z hz) (h.off z hz)).1
  ·rw [List.mem_singleton.1 hz];exact (key y hy ho).1
 ·rcases List.mem_append.1 hz with hz | hz
  ·exact (key z (h.has z hz) (h.off z hz)).2
  ·rw [List.mem_singleton.1 hz];exact (key y hy ho).2
structure BSt (w:World) (B gb:Nat) (vT vO:Value) (ts:List TV) (ok:List Bool):Prop where
 blk:w.heap[gb]? = some (.cells #[vT,vO] 111 (0,0))
 hB:B≤gb
 rowT:w.ownsRow B 80 4 vT ts.length (ts.flatMap TV.cells)
 rowO:w.ownsRow B 4 1 vO ok.length (ok.flatMap boolCells)
 ne:∀ g,vT.ownBlock=some g→vO.ownBlock ≠ some g
 nT:vT.ownBlock ≠ some gb
 nO:vO.ownBlock ≠ some gb
 ints:∀ y ∈ ts,Ints w y.A y.n y.t.stops∧Ints w y.A' y.n' y.t.times
 off:∀ y ∈ ts,∀ g,Ft y.A y.n g∨Ft y.A' y.n' g→B≤g∧vT.ownBlock ≠ some g∧vO.ownBlock ≠ some g∧g ≠ gb
theorem BSt.below {w w':World} {B gb:Nat} {vT vO:Value} {ts:List TV} {ok:List Bool} (h:BSt w B gb vT vO ts ok) (hb:Below w.heap.size w w'):BSt w' B gb vT vO ts ok :=
 ⟨blk_below hb h.blk,h.hB,own_below h.rowT hb,own_below h.rowO hb,h.ne,h.nT,h.nO,fun y hy=>⟨(h.ints y hy).1.below hb,(h.ints y hy).2.below hb⟩,h.off⟩
theorem ints_ft {w:World} {A:Option Addr} {n:Nat} {l:List Int} (h:Ints w A n l) {g:Nat} (e:Ft A n g):g < w.heap.size:=h.2.ft_lt (by decide) e
theorem BSt.appT {w w':World} {B gb:Nat} {vT vO vT':Value} {ts:List TV} {ok:List Bool} (h:BSt w B gb vT vO ts ok) {y:TV} (hy:Ints w y.A y.n y.t.stops∧Ints w y.A' y.n' y.t.times)
  (ho:∀ g,Ft y.A y.n g∨Ft y.A' y.n' g→B≤g∧vT.ownBlock ≠ some g∧vO.ownBlock ≠ some g∧g ≠ gb) (hg:w.grownBy w' vT.ownBlock) (ha:vT'.ownBlock=vT.ownBlock∨vT'.ownBlock=some w.heap.size)
  (hr:w'.ownsRow B 80 4 vT' (ts.length + 1) ((ts ++ [y]).flatMap TV.cells)):BSt (w'.setCell ⟨gb,0,none⟩ vT') B gb vT' vO (ts ++ [y]) ok:=by
 have hgl:=lt_of_block h.blk
 have K:∀ g,g < w.heap.size→vT.ownBlock ≠ some g→g ≠ gb→(w'.setCell ⟨gb,0,none⟩ vT').heap[g]? = w.heap[g]?:=fun g hl h1 h2=>(Below.heap_setCell w' ⟨gb,0,none⟩ vT' g h2).trans (hg.block g hl fun e=>h1 e.symm)
 have hbk:w'.heap[gb]? = some (.cells #[vT,vO] 111 (0,0)):=(hg.block gb hgl fun e=>h.nT e.symm).trans h.blk
 have hv:∀ g,vT'.ownBlock=some g→vT.ownBlock=some g∨g=w.heap.size:=fun g e=>ha.elim (fun e3=>.inl (e3.symm.trans e)) (fun e3=>.inr (by rw [e3] at e;injection e with e;exact e.symm))
 have hin:=own_in h.rowO
 have key:∀ z:TV,(Ints w z.A z.n z.t.stops∧Ints w z.A' z.n' z.t.times)→(∀ g,Ft z.A z.n g∨Ft z.A' z.n' g→B≤g∧vT.ownBlock ≠ some g∧vO.ownBlock ≠ some g∧g ≠ gb) →
   (Ints (w'.setCell ⟨gb,0,none⟩ vT') z.A z.n z.t.stops∧Ints (w'.setCell ⟨gb,0,none⟩ vT') z.A' z.n' z.t.times)∧∀ g,Ft z.A z.n g∨Ft z.A' z.n' g→B≤g∧vT'.ownBlock ≠ some g∧vO.ownBlock ≠ some g∧g ≠ gb:=fun z hz hoz=>by
  refine ⟨⟨hz.1.smT fun g e hl=>K g hl (hoz g (.inl e)).2.1 (hoz g (.inl e)).2.2.2,hz.2.smT fun g e hl=>K g hl (hoz g (.inr e)).2.1 (hoz g (.inr e)).2.2.2⟩,fun g e=>⟨(hoz g e).1,fun e2=>?_,(hoz g e).2.2⟩⟩
  rcases hv g e2 with e3 | e3
  ·exact (hoz g e).2.1 e3
  ·have:g < w.heap.size:=e.elim (fun e=>ints_ft hz.1 e) (fun e=>ints_ft hz.2 e)
   omega
 refine ⟨blk_set hbk 0 _,h.hB,?_,row_keep h.rowO fun g e=>K g (hin g e).2 (fun e2=>h.ne g e2 e) (fun e2=>h.nO (by rw [←e2];exact e)),fun g e e2=>?_,fun e=>?_,h.nO,fun z hz=>?_,fun z hz=>?_⟩
 ·rw [List.length_append]
  refine row_keep hr fun g e=>Below.heap_setCell w' ⟨gb,0,none⟩ vT' g fun e2=>?_
  rcases hv g e with e3 | e3
  ·exact h.nT (by rw [e3,e2])
  ·rw [e2] at e3;dsimp only at e3;omega
 ·rcases hv g e with e3 | e3
  ·exact h.ne g e3 e2
  ·have:=(hin g e2).2;omega
 ·rcases hv gb e with e3 | e3
  ·exact h.nT e3
  ·omega
 ·rcases List.mem_append.1 hz with hz | hz
  ·exact (key z (h.ints z hz) (h.off z hz)).1
  ·rw [List.mem_singleton.1 hz];exact (key y hy ho).1
 ·rcases List.mem_append.1 hz with hz | hz
  ·exact (key z (h.ints z hz) (h.off z hz)).2
  ·rw [List.mem_singleton.1 hz];exact (key y hy ho).2
theorem BSt.appO {w w':World} {B gb:Nat} {vT vO vO':Value} {ts:List TV} {ok:List Bool} (h:BSt w B gb vT vO ts ok) {b:Bool} (hg:w.grownBy w' vO.ownBlock) (ha:vO'.ownBlock=vO.ownBlock∨vO'.ownBlock=some w.heap.size)
  (hr:w'.ownsRow B 4 1 vO' (ok.length + 1) (ok.flatMap boolCells ++ boolCells b)):BSt (w'.setCell ⟨gb,1,none⟩ vO') B gb vT vO' ts (ok ++ [b]):=by
 have hgl:=lt_of_block h.blk
 have K:∀ g,g < w.heap.size→vO.ownBlock ≠ some g→g ≠ gb→(w'.setCell ⟨gb,1,none⟩ vO').heap[g]? = w.heap[g]?:=fun g hl h1 h2=>(Below.heap_setCell w' ⟨gb,1,none⟩ vO' g h2).trans (hg.block g hl fun e=>h1 e.symm)
 have hbk:w'.heap[gb]? = some (.cells #[vT,vO] 111 (0,0)):=(hg.block gb hgl fun e=>h.nO e.symm).trans h.blk
 have hv:∀ g,vO'.ownBlock=some g→vO.ownBlock=some g∨g=w.heap.size:=fun g e=>ha.elim (fun e3=>.inl (e3.symm.trans e)) (fun e3=>.inr (by rw [e3] at e;injection e with e;exact e.symm))
 have hin:=own_in h.rowT
 refine ⟨blk_set hbk 1 _,h.hB,row_keep h.rowT fun g e=>K g (hin g e).2 (h.ne g e) (fun e2=>h.nT (by rw [←e2];exact e)),?_,fun g e e2=>?_,h.nT,fun e=>?_,fun z hz=>⟨?_,?_⟩,fun z hz g e=>?_⟩
 ·rw [List.length_append,List.flatMap_append,List.flatMap_singleton]
  refine row_keep hr fun g e=>Below.heap_setCell w' ⟨gb,1,none⟩ vO' g fun e2=>?_
  rcases hv g e with e3 | e3
  ·exact h.nO (by rw [e3,e2])
  ·rw [e2] at e3;dsimp only at e3;omega
 ·rcases hv g e2 with e3 | e3
  ·exact h.ne g e e3
  ·have:=(hin g e).2;omega
 ·rcases hv gb e with e3 | e3
  ·exact h.nO e3
  ·omega
 ·exact (h.ints z hz).1.smT fun g e hl=>K g hl (h.off z hz g (.inl e)).2.2.1 (h.off z hz g (.inl e)).2.2.2
 ·exact (h.ints z hz).2.smT fun g e hl=>K g hl (h.off z hz g (.inr e)).2.2.1 (h.off z hz g (.inr e)).2.2.2
 ·obtain ⟨h1,h2,h3,h4⟩:=h.off z hz g e
  refine ⟨h1,h2,fun e2=>?_,h4⟩
  rcases hv g e2 with e3 | e3
  ·exact h3 e3
  ·have:g < w.heap.size:=e.elim (fun e=>ints_ft (h.ints z hz).1 e) (fun e=>ints_ft (h.ints z hz).2 e)
   omega
theorem BSt.done {w:World} {B gb:Nat} {vT vO:Value} {ts:List TV} {ok:List Bool} (h:BSt w B gb vT vO ts ok):∃ TA tc OA oc,vT=.slice TA ts.length tc∧vO=.slice OA ok.length oc∧BB.Has w ⟨TA,ts.length,tc,ts,OA,ok.length,oc,ok⟩∧∀ g,UBB ⟨TA,ts.length,tc,ts,OA,ok.length,oc,ok⟩ g→B≤g:=by
 obtain ⟨TA,tc,e1,hT,fT⟩:=own_form h.rowT
 obtain ⟨OA,oc,e2,hO,fO⟩:=own_form h.rowO
 refine ⟨TA,tc,OA,oc,e1,e2,⟨⟨⟨rfl,hT⟩,h.ints⟩,rfl,hO⟩,?_⟩
 rintro g ((⟨h0,ad,e,rfl⟩ | ⟨y,hy,e⟩) | ⟨h0,ad,e,rfl⟩)
 ·exact (fT _ (by rw [e1];dsimp only at e;rw [e];rfl)).1
 ·exact (h.off y hy g e).1
 ·exact (fO _ (by rw [e2];dsimp only at e;rw [e];rfl)).1
def BSays (nd:Int) (l:List Ro) (s:S) (r:List Q) (k N:Nat) (ts:List TV) (ok:List Bool):Prop :=
 ts.map TV.pr=(List.range N).map (fun i=>((if i=0 then 0 else (k:Int)),(K.bAt nd l s r i).1))∧ok=(List.range N).map fun i=>(K.bAt nd l s r i).2 == 0
theorem BSays.snoc {nd:Int} {l:List Ro} {s:S} {r:List Q} {k N:Nat} {ts:List TV} {ok:List Bool} (h:BSays nd l s r k N ts ok) (h0:N ≠ 0) {y:TV} {b:Bool} (hy:y.pr=((k:Int),(K.bAt nd l s r N).1)) (hb:b=((K.bAt nd l s r N).2 == 0)):BSays nd l s r k (N + 1) (ts ++ [y]) (ok ++ [b]):=by
 constructor
 ·rw [List.map_append,h.1,List.range_succ,List.map_append,List.map_singleton,List.map_singleton,if_neg h0,hy]
 ·rw [h.2,List.range_succ,List.map_append,List.map_singleton,hb]
theorem BSays.one (nd:Int) (l:List Ro) (s:S) (r:List Q) (k:Nat):BSays nd l s r k 1 [⟨0,none,0,0,none,0,0,K.Tr.zero⟩] [true]:=⟨rfl,rfl⟩
theorem BSays.len {nd:Int} {l:List Ro} {s:S} {r:List Q} {k N:Nat} {ts:List TV} {ok:List Bool} (h:BSays nd l s r k N ts ok):ts.length=N∧ok.length=N:=by
 have h1:=congrArg List.length h.1
 have h2:=congrArg List.length h.2
 rw [List.length_map,List.length_map,List.length_range] at h1
 rw [List.length_map,List.length_range] at h2
 exact ⟨h1,h2⟩
def BAll (x:Cs) (N:Nat) (L:List BB):Prop:=∀ (k:Nat) (y:BB) (s:S),L[k]? = some y→x.ss[k]? = some s→BSays x.nd x.l s x.r k N y.ts y.ok
theorem BAll.snoc {x:Cs} {N:Nat} {L:List BB} (h:BAll x N L) {y:BB} {s:S} (hs:x.ss[L.length]? = some s) (hy:BSays x.nd x.l s x.r L.length N y.ts y.ok):BAll x N (L ++ [y]):=fun k z s' hz hs'=>by
 by_cases hk:k < L.length
 ·rw [List.getElem?_append_left hk] at hz
  exact h k z s' hz hs'
 ·rw [List.getElem?_append_right (by omega)] at hz
  have hk2:k=L.length:=by
   have:=(List.getElem?_eq_some_iff.1 hz).1
   rw [List.length_singleton] at this
   omega
  subst hk2
  rw [Nat.sub_self] at hz
  injection hz with hz
  rw [hs] at hs'
  injection hs' with hs'
  subst hz hs'
  exact hy
def RetBests (x:Cs) (w w':World) (e:Ending):Prop :=
 (∃ A n c L,e=.returned (.slice A n c)∧Lst BB.cells 2 w' A n L∧n=x.sn∧(∀ y ∈ L,y.Has w')∧(∀ y ∈ L,∀ g,UBB y g→w.heap.size≤g)∧BAll x (2 ^ x.r.length) L)∧Below w.heap.size w w'
set_option maxHeartbeats 4000000 in
theorem samelab_any (A B:Option Addr) (n m c d:Nat) (la lb:List Lb) (w:World) (hla:Labs w A n la) (hlb:Labs w B m lb) (hn:n≤1000000000) (hm:m≤1000000000) :
  Calls Tryz.prog 83 #[.slice A n c,.slice B m d] w fun e w'=>e=.returned (.bool (decide (la=lb)))∧Below w.heap.size w w':=by
 by_cases hnm:n=m
 ·obtain rfl:=hnm
  go_enter Tryz.func83,Tryz.ntmps83
  go_wp2_with fail
  go_loopw [5] (fun vi wr=>∃ k:Nat,vi=.int .i64 k∧k≤n∧Hid (la.take k=lb.take k)∧Below w.heap.size w wr) (fun vi _=>n - (intOf vi).toNat)
  case atStart=>exact ⟨0,rfl,by omega,rfl,Below.refl _ _⟩
  case round =>
   obtain ⟨k,rfl,hk,hr,hb⟩:=hrel
   by_cases hlt:k < n
   ·obtain ⟨ad,o,rfl,hg,c0,c1,c2⟩:=Labs.at_ (Lst.below hla hb) hlt
    obtain ⟨ad2,o2,rfl,hg2,d0,d1,d2⟩:=Labs.at_ (Lst.below hlb hb) hlt
    have HN:=Lib.hid (take_eq_nextl hg hg2 hr.out)
    have k0:(0:Int)≤(k:Int):=by omega
    have k1:(k:Int) < (n:Int):=by omega
    clear hg hg2
    cases e1:(o.set == o2.set)
    ·have HX:=Lib.hid (fun h=>(show ¬ o=o2 from fun e=>by rw [e] at e1;simp at e1) (HN.out.1 h))
     go_wp2_with fail
     go_quiet (fail)
     go_wp2_with fail
     go_ret
     exact ⟨ret_b (Eq.symm (decide_eq_false (fun h=>HX.out (by rw [h])))),below_drewN hb _⟩
    cases e2:(o.last == o2.last)
    ·have HX:=Lib.hid (fun h=>(show ¬ o=o2 from fun e=>by rw [e] at e2;simp at e2) (HN.out.1 h))
     go_wp2_with fail
     go_quiet (fail)
     go_wp2_with fail
     go_ret
     exact ⟨ret_b (Eq.symm (decide_eq_false (fun h=>HX.out (by rw [h])))),below_drewN hb _⟩
    cases e3:(o.time == o2.time)
    ·have HX:=Lib.hid (fun h=>(show ¬ o=o2 from fun e=>by rw [e] at e3;simp at e3) (HN.out.1 h))
     go_wp2_with fail
     go_quiet (fail)
     go_wp2_with fail
     go_ret
     exact ⟨ret_b (Eq.symm (decide_eq_false (fun h=>HX.out (by rw [h])))),below_drewN hb _⟩
    have HX:=Lib.hid (HN.out.2 (Lb.eq_iff.2 ⟨by simpa using e1,by simpa using e2,by simpa using e3⟩))
    go_wp2_with fail
    go_quiet (fail)
    go_wp2_with fail
    go_roundw
    case rel=>exact ⟨k + 1,by go_num,by omega,HX.out,below_drewN hb _⟩
    case measure=>simp [intOf];omega
   ·have HX:=Lib.hid (show la=lb by
     have h:=hr.out
     rw [List.take_of_length_le (by rw [←hla.1];omega),List.take_of_length_le (by rw [←hlb.1];omega)] at h
     exact h)
    go_wp2_with fail
    go_ret
    exact ⟨ret_b (Eq.symm (decide_eq_true HX.out)),hb⟩
 ·have HX:=Lib.hid (show ¬ la=lb from fun h=>hnm (by rw [hla.1,hlb.1,h]))
  have q1:(((n:Nat):Int) != ((m:Nat):Int))=true:=by simp;omega
  go_enter Tryz.func83,Tryz.ntmps83
  go_wp2_with fail
  go_ret
  exact ⟨ret_b (Eq.symm (decide_eq_false HX.out)),Below.refl _ _⟩
end Go.Proofs.YtippdjmpkafifaaGreat
