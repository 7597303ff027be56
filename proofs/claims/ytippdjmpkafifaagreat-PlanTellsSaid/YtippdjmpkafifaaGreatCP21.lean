import Derived.Test.YtippdjmpkafifaaGreatCP20
import Derived.Test.YtippdjmpkafifaaGreatCP17
import Derived.Test.YtippdjmpkafifaaGreatCP18
namespace Go.Proofs.YtippdjmpkafifaaGreat
open Go.RowKit
def NewB (B:Nat) (bl:List BV):Prop:=∀ y ∈ bl,∀ g,Ft y.V y.vn g∨Ft y.LA y.ln g→B≤g
def RetRRef (w w':World) (p:List (Int × List Int × List Lb)) (er:Int) (e:Ending):Prop :=
 (∃ A n c bl,e=.returned (.tuple #[.slice A n c,.int .i64 er])∧Blks w' A n bl∧bl.map BV.pr=p∧(∀ g,UB A n bl g→w.heap.size≤g)∧n≤c∧FewB n bl)∧Below w.heap.size w w'
theorem retRRef_nil {w w':World} {er:Int} (hb:Below w.heap.size w w'):RetRRef w w' [] er (.returned (.tuple #[.slice none 0 0,.int .i64 er])) :=
 ⟨⟨none,0,0,[],rfl,⟨⟨rfl,rfl,fun h=>absurd h (by omega)⟩,fun y h=>by cases h⟩,rfl,fun g e=>e.elim (fun e=>absurd e.1 (Nat.lt_irrefl 0)) (fun ⟨y,h,_⟩=>by cases h),Nat.le_refl _,⟨by omega,fun y h=>by cases h⟩⟩,hb⟩
structure Mid3 (ws w:World) (v:Value) (BS:Nat) (own:List Sh) (E:Option Addr) (m:Nat) (l:List Sh):Prop where
 row:w.ownsRow BS 48 1 v own.length (own.map Sh.val)
 ok:RowOk w v own
 bw:Below ws.heap.size ws w
 sh:Shs w E m l
 off:OffRow E m v
 lk:RowOk w v l
theorem Mid3.below {ws w w':World} {v:Value} {BS:Nat} {own:List Sh} {E:Option Addr} {m:Nat} {l:List Sh} (h:Mid3 ws w v BS own E m l) (hb:Below w.heap.size w w'):Mid3 ws w' v BS own E m l :=
 ⟨own_below h.row hb,h.ok.below hb,bel h.bw hb,h.sh.below hb,h.off,h.lk.below hb⟩
theorem Mid3.app {ws w w':World} {v v':Value} {BS:Nat} {own:List Sh} {E:Option Addr} {m:Nat} {l:List Sh} (h:Mid3 ws w v BS own E m l) {y:Sh} (hy:y ∈ l) (hg:w.grownBy w' v.ownBlock) (ha:v'.ownBlock=v.ownBlock∨v'.ownBlock=some w.heap.size) (hr:w'.ownsRow BS 48 1 v' (own.length + 1) ((own ++ [y]).map Sh.val)) (hBS:BS=ws.heap.size):Mid3 ws w' v' BS (own ++ [y]) E m l:=by
 have h1:=h.lk.grow hg ha
 exact ⟨by rw [List.length_append];exact hr,(h.ok.grow hg ha).snoc (h1 y hy).1 (h1 y hy).2,below_own2 h.bw hg (fun g e=>by rw [←hBS];exact (own_in h.row g e).1),h.sh.grown hg (fun h0 ad e e2=>h.off h0 ad e e2.symm) (fun s hs h0 ad e e2=>(h.lk s hs).2 h0 ad e e2.symm),h.off.grow h.sh ha,h1⟩
structure Fin3 (w1 w:World) (v:Value) (B1:Nat) (bl:List BV) (E:Option Addr) (n:Nat) (own:List Sh):Prop where
 row:w.ownsRow B1 90 3 v bl.length (bl.flatMap BV.cells)
 ok:BlOk w v bl
 bw:Below w1.heap.size w1 w
 sh:Shs w E n own
 off:OffRow E n v
 lk:RowOk w v own
theorem Fin3.below {w1 w w':World} {v:Value} {B1:Nat} {bl:List BV} {E:Option Addr} {n:Nat} {own:List Sh} (h:Fin3 w1 w v B1 bl E n own) (hb:Below w.heap.size w w'):Fin3 w1 w' v B1 bl E n own :=
 ⟨own_below h.row hb,h.ok.below hb,bel h.bw hb,h.sh.below hb,h.off,h.lk.below hb⟩
theorem Fin3.app {w1 w w':World} {v v':Value} {B1:Nat} {bl:List BV} {E:Option Addr} {n:Nat} {own:List Sh} (h:Fin3 w1 w v B1 bl E n own) (hB:B1=w1.heap.size) {y:BV} (hy:(Ints w y.V y.vn y.v∧Labs w y.LA y.ln y.lb)∧OffRow y.V y.vn v∧OffRow y.LA y.ln v∧(y.vn≤y.vc∧y.vn≤6∧y.ln≤384)) (hg:w.grownBy w' v.ownBlock) (ha:v'.ownBlock=v.ownBlock∨v'.ownBlock=some w.heap.size) (hr:w'.ownsRow B1 90 3 v' (bl.length + 1) ((bl ++ [y]).flatMap BV.cells)):Fin3 w1 w' v' B1 (bl ++ [y]) E n own :=
 ⟨by rw [List.length_append];exact hr,(h.ok.snoc hy).grow hg ha,below_own2 h.bw hg (fun g e=>by rw [←hB];exact (own_in h.row g e).1),h.sh.grown hg (fun h0 ad e e2=>h.off h0 ad e e2.symm) (fun s hs h0 ad e e2=>(h.lk s hs).2 h0 ad e e2.symm),h.off.grow h.sh ha,h.lk.grow hg ha⟩
set_option maxRecDepth 100000 in
set_option maxHeartbeats 40000000 in
theorem rrefute23_any (x:Cs) (w:World) (hx:CsAt w x) (h4:K.pcheck x.nd x.l x.ss x.r=0→x.m≤4) :
  Calls Tryz.prog 23 #[.agg #[.int .i64 x.nd,.slice x.A x.n x.c],.slice x.SA x.sn x.sc,.slice x.B x.m x.d] w fun e w'=>RetRRef w w' ((K.refute x.nd x.l x.ss x.r).1.map fun b=>((b.1:Int),b.2)) (K.refute x.nd x.l x.ss x.r).2 e:=by
 obtain ⟨w0,hw0⟩:∃ w0:World,w0=w.alloc (.cells #[.int .i64 x.nd,.slice x.A x.n x.c] 24):=⟨_,rfl⟩
 have hN0:Net w0 w.heap.size x.nd x.A x.n x.c:=by rw [hw0];exact Net.new w x.nd x.A x.n x.c
 have hb0:Below w.heap.size w w0:=by rw [hw0];exact (Below.refl _ _).alloc (Nat.le_refl _) _
 obtain ⟨G0,hG0⟩:∃ G0,G0=w.heap.size:=⟨_,rfl⟩
 rw [←hG0] at hN0
 have HSN:=Lib.hid hx.shifts.1.1
 have HRN:=Lib.hid hx.reqs.1
 have CP:=rplan21_any x w0 (hx.below hb0) h4
 have p0:=hN0.c0
 have p1:=hN0.c1
 go_enter Tryz.func23,Tryz.ntmps23
 go_upto_region 1 with fail
 rw [←hw0,←hG0]
 clear hw0 hG0
 go_wp2_with fail
 refine CP.mono ?_
 rintro e w1 ⟨⟨PA,pn,pc,pl,rfl,-,-,-,-⟩,b1⟩
 obtain ⟨ce,hce⟩:∃ ce,ce=(K.plan x.nd x.l x.ss x.r).2:=⟨_,rfl⟩
 rw [←hce]
 have hN1:=hN0.below b1
 have hb1:=bel hb0 b1
 clear CP p0 p1 hN0 b1
 by_cases hz:ce=0
 ·have HX:=Lib.hid (show K.refute x.nd x.l x.ss x.r=([],7) from K.refute_zero (by rw [←hce];exact hz))
  have hd:(ce == 0)=true:=by simp [hz]
  have hd2:decide (ce=0)=true:=by simp [hz]
  clear hce hz
  go_wp2_with fail
  go_ret2
  rw [HX.out]
  exact retRRef_nil hb1
 by_cases hz4:ce=4
 rotate_left
 ·have HX:=Lib.hid (show K.refute x.nd x.l x.ss x.r=([],ce) by rw [hce] at hz hz4 ⊢;exact K.refute_other hz hz4)
  have hd:(ce == 0)=false:=by simp [hz]
  have hd2:(ce != 4)=true:=by simp [bne,hz4]
  clear hce hz hz4
  go_wp2_with fail
  go_ret2
  rw [HX.out]
  exact retRRef_nil hb1
 subst hz4
 have HR:=Lib.hid (K.refute_four hce.symm)
 have HOK:=Lib.hid (K.plan_four hce.symm)
 clear hce hz
 have hm4:x.m≤4:=h4 HOK.out
 have hsn4:x.sn≤4:=by rw [hx.shifts.1.1];exact (K.pcheck_ok HOK.out).2.1
 clear h4
 go_upto_region 7 with fail
 go_wp2_with fail
 go_loopw [10,11] (fun v10 v11 wr=>∃ k:Nat,v11=.int .i64 k∧k≤x.m∧wr.ownsRow w1.heap.size 3 1 v10 k (intCells (K.iota k))∧Below w1.heap.size w1 wr) (fun _ v11 _=>x.m - (intOf v11).toNat)
 case atStart=>exact ⟨0,rfl,Nat.zero_le _,World.ownsRow_nil _ _ _ _,Below.refl _ _⟩
 case round =>
  obtain ⟨k,rfl,hk,hown,hbk⟩:=hrel
  by_cases hkm:k < x.m
  ·have kd:decide ((k:Int) < (x.m:Int))=true:=decide_eq_true (by omega)
   have kd2:decide (k < x.m)=true:=decide_eq_true hkm
   obtain ⟨g9,hg9⟩:∃ g9,g9=wr.heap.size:=⟨_,rfl⟩
   obtain ⟨w6,hw6⟩:∃ w6:World,w6=wr.alloc (.cells #[.int .i64 k] 3):=⟨_,rfl⟩
   have b6:Below wr.heap.size wr w6:=by rw [hw6];exact bel_alloc0 _ _
   have hB6:w6.heap[g9]? = some (.cells #[.int .i64 k] 3 (0,0)):=by rw [hw6,hg9];exact heap_alloc_new _ _
   have hown6:=own_below hown b6
   have hb6:=bel hbk b6
   have hbs6:w1.heap.size≤w6.heap.size:=hb6.size
   have hk6:k≤1000000:=by omega
   have HE:=Lib.hid (K.iota_succ k)
   go_wp2_with (first
    | (at_builtin;rw [←hw6,←hg9];refine app_int rfl _ _ rfl w1.heap.size _ k (K.iota k) rfl hown6 g9 k rfl hB6 hk6 hbs6 ?_;intro v7 w7 hown7 hgrow7 _)
    | fail)
   have hb7:Below w1.heap.size w1 w7:=below_own2 hb6 hgrow7 (fun g e=>(own_in hown6 g e).1)
   go_roundw
   case rel=>(go_light;exact ⟨k + 1,by go_num,hkm,by rw [HE.out];exact hown7,hb7⟩)
   case measure=>(go_light;simp [intOf];omega)
  have kd:decide ((k:Int) < (x.m:Int))=false:=decide_eq_false (by omega)
  have kd2:decide (k < x.m)=false:=decide_eq_false hkm
  have hkm2:k=x.m:=by omega
  rw [hkm2] at hown
  have hacap:=hown
  obtain ⟨AA,ac,rfl,hAr,hAf⟩:=own_form hown
  have hac:x.m≤ac:=own_cap hacap
  have hAI:Ints wr AA x.m (K.upfrom 0 x.m):=by
   rw [K.upfrom_iota]
   exact ⟨(K.iota_len _).symm,hAr⟩
  obtain ⟨w2,hw2⟩:∃ w2,w2=wr:=⟨_,rfl⟩
  rw [←hw2] at hAI hbk
  rw [←hw2]
  clear hw2 hkm2 hAr hAf hacap hown hkm
  have hb2:=bel hb1 hbk
  have hN2:=hN1.below hbk
  have hx2:=hx.below hb2
  obtain ⟨B1,hB1⟩:∃ B1,B1=w2.heap.size:=⟨_,rfl⟩
  have HB1:=Lib.hid hB1
  have hwB:w.heap.size≤B1:=by rw [hB1];exact hb2.size
  clear hB1
  go_wp2_with fail
  clear kd kd2
  go_loopw [12,13] (fun v12 v13 wr=>∃ (s:Nat) (bl:List BV),v13=.int .i64 s∧s≤x.sn∧wr.ownsRow B1 90 3 v12 bl.length (bl.flatMap BV.cells)∧BlOk wr v12 bl∧NewB B1 bl∧bl.length≤1000 * s∧Hid (bl.map BV.pr=K.blksUpto x.nd x.l x.ss x.r s)∧Below w2.heap.size w2 wr) (fun _ v13 _=>x.sn - (intOf v13).toNat)
  case atStart=>exact ⟨0,[],rfl,Nat.zero_le _,World.ownsRow_nil _ _ _ _,fun y hy=>(by cases hy),fun y hy=>(by cases hy),Nat.zero_le _,rfl,Below.refl _ _⟩
  case round =>
   obtain ⟨s,bl,rfl,hs,hown,hbo,hnb,hbl,hcl,hbr⟩:=hrel
   obtain ⟨ws,hws⟩:∃ ws,ws=wr:=⟨_,rfl⟩
   rw [←hws] at hown hbo hbr
   rw [←hws]
   clear hws
   by_cases hlt:s < x.sn
   rotate_left
   ·have hse:s=x.ss.length:=by have:=HSN.out;omega
    have hd:decide ((s:Int) < (x.sn:Int))=false:=decide_eq_false (by omega)
    have hd2:decide (s < x.sn)=false:=decide_eq_false hlt
    have hcap9:=hown
    obtain ⟨A9,c9,rfl,hRd,hfr⟩:=own_form hown
    have hc9:bl.length≤c9:=own_cap hcap9
    have HB:=Lib.hid (show bl.map BV.pr=(K.refute x.nd x.l x.ss x.r).1.map fun b=>((b.1:Int),b.2) by rw [HR.out,K.blksUpto_all,←hse];exact hcl.out)
    have HX:=Lib.hid (show (K.refute x.nd x.l x.ss x.r).2=0 by rw [HR.out])
    have hbn:bl.length≤1000000000:=by omega
    clear hse hown hcap9
    go_wp2_with fail
    go_ret2
    rw [HX.out]
    refine ⟨⟨A9,bl.length,c9,bl,rfl,⟨⟨rfl,hRd⟩,fun y hy=>(hbo y hy).1⟩,HB.out,?_,hc9,⟨hbn,fun y hy=>by obtain ⟨-,-,-,h1,h2,h3⟩:=hbo y hy;exact ⟨h1,by omega,by omega⟩⟩⟩,bel hb2 hbr⟩
    rintro g (⟨-,ad,e,rfl⟩ | ⟨y,hy,e⟩)
    ·exact Nat.le_trans hwB (hfr ad.block (by rw [e];rfl)).1
    ·exact Nat.le_trans hwB (hnb y hy g e)
   have i0:(0:Int)≤(s:Int):=by omega
   have i1:(s:Int) < (x.sn:Int):=by omega
   have d0:decide ((s:Int) < (x.sn:Int))=true:=decide_eq_true i1
   have d0':decide (s < x.sn)=true:=decide_eq_true hlt
   have hbs:=bel hb2 hbr
   have hNs:=hN2.below hbr
   have hxs:=hx2.below hbr
   have hAs:=hAI.below hbr
   obtain ⟨ads,sS,hSA,hsS,hIS,s0,s1,s2,s3,s4,s5⟩:=hx2.shifts.at_ hlt
   have HSS:=Lib.hid hsS
   have HSM:=Lib.hid (List.mem_of_getElem? hsS)
   have HSA:=Lib.hid hSA
   have hmk:∀ w',Below w2.heap.size w2 w'→(fun w':World=>w'.cell? ⟨G0,0,none⟩=some (.int .i64 x.nd)∧w'.cell? ⟨G0,1,none⟩=some (.slice x.A x.n x.c)∧w'.cell? (ads.add (s * 6))=some (.int .i64 sS.day)∧w'.cell? ⟨(ads.add (s * 6)).block,(ads.add (s * 6)).off + 1,none⟩=some (.int .i64 sS.depot)∧w'.cell? ⟨(ads.add (s * 6)).block,(ads.add (s * 6)).off + 2,none⟩=some (.int .i64 sS.start)∧w'.cell? ⟨(ads.add (s * 6)).block,(ads.add (s * 6)).off + 3,none⟩=some (.int .i64 sS.end_)∧w'.cell? ⟨(ads.add (s * 6)).block,(ads.add (s * 6)).off + 4,none⟩=some (.int .i64 sS.tare)∧w'.cell? ⟨(ads.add (s * 6)).block,(ads.add (s * 6)).off + 5,none⟩=some (.slice sS.A sS.n sS.c)) w':=fun w' h=>by
    have mv:∀ {p:Addr} {v:Value},w2.cell? p=some v→w'.cell? p=some v:=fun g=>(h.cell (cell_lt g)).trans g
    exact ⟨mv hN2.c0,mv hN2.c1,mv s0,mv s1,mv s2,mv s3,mv s4,mv s5⟩
   have HMK:=Lib.hid hmk
   obtain ⟨FE,hFE⟩:∃ FE,FE=K.feas x.nd x.l x.ss x.r s:=⟨_,rfl⟩
   have HFE:=Lib.hid hFE
   have HFV:=Lib.hid (show ∀ v,FE v=((K.bestOut x.nd x.l sS x.r v).2 == 0) from fun v=>by rw [hFE];unfold K.feas;rw [hsS])
   obtain ⟨BS,hBS⟩:∃ BS,BS=ws.heap.size:=⟨_,rfl⟩
   have HBS:=Lib.hid hBS
   clear hFE hsS hSA hmk hIS s0 s1 s2 s3 s4 s5 hBS
   go_upto_region 16 with fail
   go_wp2_with fail
   clear d0 d0'
   go_loopw [14,15] (fun v14 v15 wi=>∃ (n:Nat) (own:List Sh),v15=.int .i64 (n + 1:Nat)∧n≤x.m∧wi.ownsRow BS 48 1 v14 own.length (own.map Sh.val)∧RowOk wi v14 own∧NewL BS own∧(∀ y ∈ own,y.n≤6∧y.l.length≤4)∧own.length≤64 * n∧Hid (own.map Sh.l=A.ownGo FE [] (A.upto x.m n))∧Below ws.heap.size ws wi) (fun _ v15 _=>x.m + 1 - (intOf v15).toNat)
   case atStart=>exact ⟨0,[],rfl,Nat.zero_le _,World.ownsRow_nil _ _ _ _,fun y hy=>(by cases hy),fun y hy=>(by cases hy),fun y hy=>(by cases hy),Nat.zero_le _,rfl,Below.refl _ _⟩
   case round =>
    obtain ⟨n,own,rfl,hn,hownO,hroO,hnwO,h6O,hlO,hcO,hbO⟩:=hrel
    obtain ⟨wk,hwk⟩:∃ wk,wk=wr:=⟨_,rfl⟩
    rw [←hwk] at hownO hroO hbO
    rw [←hwk]
    clear hwk
    obtain ⟨N1,hN1'⟩:∃ N1,N1=n + 1:=⟨_,rfl⟩
    have HN1:=Lib.hid hN1'
    rw [←hN1']
    by_cases hnm:n < x.m
    ·have k0:decide ((N1:Int)≤(x.m:Int))=true:=decide_eq_true (by omega)
     have k0':decide (N1≤x.m)=true:=decide_eq_true (by omega)
     have hN1m:N1≤x.m:=by omega
     clear hN1'
     have CS:=sets79_any x.m (by omega) N1 0 AA ac wk (by omega) (Nat.zero_le _) (by rw [Nat.sub_zero];exact hAs.below hbO) (by rw [Nat.sub_zero];exact hac)
     rw [Nat.sub_zero] at CS
     have hDl:(A.combos x.m N1 0).length≤64:=A.combos_few (by omega) (by omega) (by omega)
     obtain ⟨D,hD⟩:∃ D,D=A.combos x.m N1 0:=⟨_,rfl⟩
     rw [←hD] at CS hDl
     have HD:=Lib.hid hD
     clear hD
     go_wp2_with fail
     refine CS.mono ?_
     rintro e wl ⟨⟨E,m,c,l,rfl,hSl,hmc,hlD,hEn,hln⟩,bl2⟩
     have hml:m≤64:=by rw [hSl.1.1,←List.length_map (f:=Sh.l),hlD];exact hDl
     have hl6:∀ t ∈ l,t.n≤6∧t.l.length≤4∧t.l.Pairwise (· < ·)∧∀ i ∈ t.l,0≤i∧i < (x.m:Int):=fun t ht=>by
      have h9:t.l ∈ A.combos x.m N1 0:=by rw [←HD.out,←hlD];exact List.mem_map_of_mem ht
      obtain ⟨h1,h2,h3⟩:=A.mem_combos.1 h9
      have h4:=(hSl.2 t ht).1.1
      exact ⟨by omega,by omega,h2,fun i hi=>by have:=h3 i hi;omega⟩
     have hoffE:OffRow E m u14:=fun _ ad e e2=>by
      have h1:=(own_in hownO _ e2).2
      have h2:=hEn ad e
      omega
     have hroE:RowOk wl u14 l:=fun t ht=>⟨hSl.2 t ht,fun h0 ad e e2=>by
      have h1:=(own_in hownO _ e2).2
      have h2:=hln t ht h0 ad e
      omega⟩
     have M0:Mid3 ws wl u14 BS own E m l:=⟨own_below hownO bl2,hroO.below bl2,bel hbO bl2,hSl,hoffE,hroE⟩
     have hnE:NewL BS l:=hln.mono (by rw [HBS.out];exact hbO.size)
     have HLD:=Lib.hid hlD
     have HL6:=Lib.hid hl6
     have HSL:=Lib.hid hSl.1.1
     clear CS hownO hroO hbO hEn hln bl2 hoffE hroE hSl hlD hl6
     go_wp2_with fail
     clear k0 k0'
     go_loopw [14,17] (fun v14 v17 wj=>∃ (j:Nat) (own':List Sh),v17=.int .i64 j∧j≤m∧Mid3 ws wj v14 BS own' E m l∧NewL BS own'∧(∀ y ∈ own',y.n≤6∧y.l.length≤4)∧own'.length≤own.length + j∧Hid (own'.map Sh.l=A.ownGo FE [] (A.upto x.m n ++ (l.take j).map Sh.l))) (fun _ v17 _=>m - (intOf v17).toNat)
     case atStart=>exact ⟨0,own,rfl,Nat.zero_le _,M0,hnwO,h6O,Nat.le_refl _,by show _=_;rw [List.take_zero,List.map_nil,List.append_nil];exact hcO.out⟩
     case round =>
      clear M0
      obtain ⟨j,own',rfl,hj,M,hnwI,h6I,hlI,hcI⟩:=hrel
      obtain ⟨wj,hwj⟩:∃ wj,wj=wr:=⟨_,rfl⟩
      rw [←hwj] at M
      rw [←hwj]
      clear hwj
      by_cases hjm:j < m
      ·obtain ⟨E2,c2,rfl,hS2,hc2,-⟩:=own_shs M.row rfl M.ok
       obtain ⟨adE,t,hEA,hg,⟨hI,hsc,hs0⟩,hc⟩:=M.sh.at_ hjm
       have j0:(0:Int)≤(j:Int):=by omega
       have j1:(j:Int) < (m:Int):=by omega
       have jd:decide ((j:Int) < (m:Int))=true:=decide_eq_true j1
       have jd2:decide (j < m)=true:=decide_eq_true hjm
       have htm:=List.mem_of_getElem? hg
       obtain ⟨h6,h4t,hso,hbd⟩:=HL6.out t htm
       have hvn9:t.n≤1000000000:=by omega
       have HTM:=Lib.hid htm
       have HG:=Lib.hid hg
       have HTK:=Lib.hid (show (l.take (j + 1)).map Sh.l=(l.take j).map Sh.l ++ [t.l] by rw [List.take_add_one,hg,List.map_append];rfl)
       have HEA:=Lib.hid hEA
       rw [hEA]
       clear hg htm hso hbd hEA
       have hol:own'.length≤1000:=by omega
       go_wp2_with fail
       clear jd jd2
       go_loopw [18,19] (fun v18 v19 wh=>∃ k:Nat,v19=.int .i64 k∧k≤own'.length∧v18=.bool ((own'.take k).any fun u=>A.part u.l t.l)∧Below wj.heap.size wj wh) (fun _ v19 _=>own'.length - (intOf v19).toNat)
       case atStart=>exact ⟨0,rfl,Nat.zero_le _,rfl,Below.refl _ _⟩
       case round =>
        obtain ⟨k,rfl,hk,rfl,hbh⟩:=hrel
        obtain ⟨wh,hwh⟩:∃ wh,wh=wr:=⟨_,rfl⟩
        rw [←hwh] at hbh
        rw [←hwh]
        clear hwh
        by_cases hko:k < own'.length
        ·have k0:(0:Int)≤(k:Int):=by omega
         have k1:(k:Int) < (own'.length:Int):=by omega
         have kd:decide ((k:Int) < (own'.length:Int))=true:=decide_eq_true k1
         have kd2:decide (k < own'.length)=true:=decide_eq_true hko
         obtain ⟨adO,u,hOA,hu,⟨hIu,-,-⟩,cu⟩:=(hS2.below hbh).at_ hko
         have hun:=(h6I u (List.mem_of_getElem? hu)).1
         have HNX:=Lib.hid (drop_any' (p:=fun u:Sh=>A.part u.l t.l) hu)
         obtain ⟨z,hz⟩:∃ z,z=(own'.take k).any fun u=>A.part u.l t.l:=⟨_,rfl⟩
         rw [←hz] at HNX ⊢
         obtain ⟨z2,hz2⟩:∃ z2,z2=A.part u.l t.l:=⟨_,rfl⟩
         have HZ2:=Lib.hid hz2
         have HOA:=Lib.hid hOA
         have hIt:=hI.below hbh
         rw [hOA]
         clear hz hz2 hOA hu
         have ht9:(hc:wj.cell? (adE.add j)=some (.slice t.A t.n t.c))=hc:=rfl
         have ce:=(hbh.cell (cell_lt hc)).trans hc
         cases z
         ·have HQ:=Lib.hid (show ((own'.take (k + 1)).any fun u=>A.part u.l t.l)=z2 by rw [HNX.out,HZ2.out,Bool.false_or])
          have CT:∀ i:Beh wh,Calls Tryz.prog 80 #[.slice u.A u.n u.c,.slice t.A t.n t.c] i.val fun e w'=>e=.returned (.bool z2)∧Below i.val.heap.size i.val w':=fun i=>by
           rw [HZ2.out]
           exact rpart80_any u.A u.n u.c u.l t.A t.n t.c t.l i.val (hIu.below i.property) (by omega) (hIt.below i.property) (by omega)
          have q0:=Beh.cell cu
          have q1:=Beh.cell ce
          clear HNX ht9
          go_upto_region 27 with fail
          refine reg_beh (by kernel_rfl) (by kernel_rfl) ?_
          repeat (go_big_quiet_step ((go_at_call 80;exact Beh.calls (CT _))))
          refine wpQuiet_nil ?_
          rintro w4 ⟨⟨w4,b4⟩,rfl⟩
          have hb4:=bel hbh b4
          clear q0 q1 CT
          go_wp2_with fail
          go_roundw
          case rel=>(go_light;exact ⟨k + 1,by go_num,hko,by rw [HQ.out],hb4⟩)
          case measure=>(go_light;simp [intOf];omega)
         ·have HQ:=Lib.hid (show ((own'.take (k + 1)).any fun u=>A.part u.l t.l)=true by rw [HNX.out,Bool.true_or])
          clear HNX ht9 cu ce
          go_upto_region 27 with fail
          refine reg_beh (by kernel_rfl) (by kernel_rfl) ?_
          repeat (go_big_quiet_step (fail))
          refine wpQuiet_nil ?_
          rintro w4 ⟨⟨w4,b4⟩,rfl⟩
          have hb4:=bel hbh b4
          go_wp2_with fail
          go_roundw
          case rel=>(go_light;exact ⟨k + 1,by go_num,hko,by rw [HQ.out],hb4⟩)
          case measure=>(go_light;simp [intOf];omega)
        have kd:decide ((k:Int) < (own'.length:Int))=false:=decide_eq_false (by omega)
        have kd2:decide (k < own'.length)=false:=decide_eq_false hko
        have hall:(own'.take k)=own':=List.take_of_length_le (by omega)
        obtain ⟨z,hz⟩:∃ z,z=own'.any fun u=>A.part u.l t.l:=⟨_,rfl⟩
        rw [hall,←hz]
        have HZ:=Lib.hid (show ((own'.map Sh.l).any fun u=>A.part u t.l)=z by rw [hz,List.any_map];rfl)
        obtain ⟨wd,hwd⟩:∃ wd,wd=wh:=⟨_,rfl⟩
        rw [←hwd] at hbh
        rw [←hwd]
        clear hwd hz hall
        have Md:=M.below hbh
        have hVd:=hI.below hbh
        have ce:=(hbh.cell (cell_lt hc)).trans hc
        have hxd:CsAt wd x:=hxs.below Md.bw
        have hAtd:=hxd.case HSM.out
        have hv4:K.ok31 (x.one sS).nd (x.one sS).l (x.one sS).s (x.one sS).r t.l=true→t.l.length≤4:=fun _=>h4t
        obtain ⟨Y,hY⟩:∃ Y,Y=K.bestOut x.nd x.l sS x.r t.l:=⟨_,rfl⟩
        have HY:=Lib.hid hY
        have HFT:=Lib.hid (show FE t.l=(Y.2 == 0) by rw [HFV.out,hY])
        have HME:=Lib.hid (show ∀ w',Below wd.heap.size wd w'→(fun w':World=>w'.cell? ⟨G0,0,none⟩=some (.int .i64 x.nd)∧w'.cell? ⟨G0,1,none⟩=some (.slice x.A x.n x.c)∧w'.cell? (ads.add (s * 6))=some (.int .i64 sS.day)∧w'.cell? ⟨(ads.add (s * 6)).block,(ads.add (s * 6)).off + 1,none⟩=some (.int .i64 sS.depot)∧w'.cell? ⟨(ads.add (s * 6)).block,(ads.add (s * 6)).off + 2,none⟩=some (.int .i64 sS.start)∧w'.cell? ⟨(ads.add (s * 6)).block,(ads.add (s * 6)).off + 3,none⟩=some (.int .i64 sS.end_)∧w'.cell? ⟨(ads.add (s * 6)).block,(ads.add (s * 6)).off + 4,none⟩=some (.int .i64 sS.tare)∧w'.cell? ⟨(ads.add (s * 6)).block,(ads.add (s * 6)).off + 5,none⟩=some (.slice sS.A sS.n sS.c)∧w'.cell? (adE.add j)=some (.slice t.A t.n t.c)) w' from fun w' h=>by
         obtain ⟨a0,a1,a2,a3,a4,a5,a6,a7⟩:=HMK.out w' (bel (bel hbr Md.bw) h)
         exact ⟨a0,a1,a2,a3,a4,a5,a6,a7,(h.cell (cell_lt ce)).trans ce⟩)
        have hwdz:=Md.bw.size
        rw [HSA.out]
        clear hY ce hko hk
        have hbd0:Below wd.heap.size wd wd:=Below.refl _ _
        have S0:=HME.out _ hbd0
        have ba:Below wd.heap.size wd (wd.alloc (.cells #[.int .i64 0,.slice none 0 0,.slice none 0 0,.int .i64 0] 80)):=(Below.refl _ _).alloc (Nat.le_refl _) _
        have S0a:=HME.out _ ba
        have S0d:=HME.out _ hbd0.drew
        have S0ad:=HME.out _ ba.drew
        have hAt:=fun w' (h:Below wd.heap.size wd w')=>hAtd.below h
        go_upto_region 28 with fail
        go_cut [20,21] from 84 to 97 (fun vp ve wc=>ve=.int .i64 Y.2∧Below wd.heap.size wd wc)
        case first =>
         go_region_held3 (fun w':World=>w'.cell? ⟨G0,0,none⟩=some (.int .i64 x.nd)∧w'.cell? ⟨G0,1,none⟩=some (.slice x.A x.n x.c)∧w'.cell? (ads.add (s * 6))=some (.int .i64 sS.day)∧w'.cell? ⟨(ads.add (s * 6)).block,(ads.add (s * 6)).off + 1,none⟩=some (.int .i64 sS.depot)∧w'.cell? ⟨(ads.add (s * 6)).block,(ads.add (s * 6)).off + 2,none⟩=some (.int .i64 sS.start)∧w'.cell? ⟨(ads.add (s * 6)).block,(ads.add (s * 6)).off + 3,none⟩=some (.int .i64 sS.end_)∧w'.cell? ⟨(ads.add (s * 6)).block,(ads.add (s * 6)).off + 4,none⟩=some (.int .i64 sS.tare)∧w'.cell? ⟨(ads.add (s * 6)).block,(ads.add (s * 6)).off + 5,none⟩=some (.slice sS.A sS.n sS.c)∧w'.cell? (adE.add j)=some (.slice t.A t.n t.c))
          (first | with_reducible exact S1s | with_reducible exact S1b | with_reducible exact S1a | with_reducible exact S1 | with_reducible exact S0ad | with_reducible exact S0a | with_reducible exact S0d | with_reducible exact S0 | fail)
          (first
           | (go_at_call 81;refine (best31_any (x.one sS) t.A t.n t.c t.l _ (hAt _ ?_) (hVd.below ?_) hvn9 hv4).mono ?_;(first | with_reducible exact hbd0 | with_reducible exact ba | with_reducible exact hbd0.drew | with_reducible exact ba.drew);(first | with_reducible exact hbd0 | with_reducible exact ba | with_reducible exact hbd0.drew | with_reducible exact ba.drew);rw [show K.bestOut (x.one sS).nd (x.one sS).l (x.one sS).s (x.one sS).r t.l=Y from HY.out.symm];rintro e w5 ⟨⟨A0,n0,c0,A1,n1,c1,rfl,hI0,hI1,hf0,hf1⟩,hbn⟩;(first | (have b5:=bel hbd0.drew hbn;have b5b:=bel b5 ((Below.refl _ _).alloc (Nat.le_refl _) (.cells #[.int .i64 0,.slice A0 n0 c0,.slice A1 n1 c1,.int .i64 Y.1.end_] 80));have S1b:=HME.out _ b5b;have S1a:=HME.out _ (bel b5 ((Below.refl _ _).alloc (Nat.le_refl _) (.cells #[.int .i64 0,.slice none 0 0,.slice none 0 0,.int .i64 0] 80)))) | (have b5:=bel ba.drew hbn;have hT5:=blk_below hbn (heap_alloc_new wd (.cells #[.int .i64 0,.slice none 0 0,.slice none 0 0,.int .i64 0] 80));have b9:=below_set4 b5 (Nat.le_refl _) (.int .i64 0) (.slice A0 n0 c0) (.slice A1 n1 c1) (.int .i64 Y.1.end_);have S1s:=HME.out _ b9;obtain ⟨t0,t1,t2,t3⟩:=TBlk.cells (h:=0) hT5;have tf:=blk_free hT5));have S1:=HME.out _ b5)
           | fail)
         ·go_wp2_with fail
          go_meet
          case rel=>(go_light;exact ⟨rfl,b5b⟩)
         ·go_wp2_with fail
          go_meet
          case rel=>(go_light;exact ⟨rfl,b9⟩)
        case rest =>
        obtain ⟨rfl,hbc⟩:=hcut
        rw [←HSA.out]
        have M1:=Md.below hbc
        have cE:=(hbc.cell (cell_lt ((hbh.cell (cell_lt hc)).trans hc))).trans ((hbh.cell (cell_lt hc)).trans hc)
        obtain ⟨wc',hwc'⟩:∃ wc',wc'=wc:=⟨_,rfl⟩
        rw [←hwc'] at M1 cE hbc
        rw [←hwc']
        clear hwc' S0 S0a S0d S0ad hAt hAtd hVd ba hbd0 kd kd2
        by_cases hyes:z=false∧Y.2 ≠ 0
        rotate_left
        ·have HN:=Lib.hid (A.ownGo_no (ok:=FE) (own:=[]) (L:=A.upto x.m n ++ (l.take j).map Sh.l) (v:=t.l) (by
          cases z with
          | true=>exact .inl (by rw [←hcI.out];exact HZ.out)
          | false=>exact .inr (by rw [HFT.out];simp only [beq_iff_eq];exact Classical.byContradiction fun e=>hyes ⟨rfl,e⟩)))
         have HC2:=Lib.hid (show own'.map Sh.l=A.ownGo FE [] (A.upto x.m n ++ (l.take (j + 1)).map Sh.l) by rw [HTK.out,←List.append_assoc,HN.out];exact hcI.out)
         have hl2:own'.length≤own.length + (j + 1):=by omega
         go_upto_region 29 with fail
         go_cut [103] from 98 to 103 (fun v103 wz=>v103=.bool false∧wz=wc')
         case first =>
          cases z
          ·have hy0:Y.2=0:=Classical.byContradiction fun e=>hyes ⟨rfl,e⟩
           have e1:(Y.2 != 0)=false:=by simp [hy0]
           clear hy0 hyes
           go_wp2_with fail
           go_meet
           exact ⟨rfl,rfl⟩
          ·clear hyes
           go_wp2_with fail
           go_meet
           exact ⟨rfl,rfl⟩
         case rest =>
         obtain ⟨rfl,hwz⟩:=hcut
         rw [hwz]
         clear hwz hyes
         go_wp2_with fail
         go_roundw
         case rel=>(go_light;exact ⟨j + 1,own',by go_num,hjm,by first | exact M1 | (rw [←HEA.out];exact M1),hnwI,h6I,hl2,HC2.out⟩)
         case measure=>(go_light;simp [intOf];omega)
        obtain ⟨hz0,hy0⟩:=hyes
        subst hz0
        have e1:(Y.2 != 0)=true:=by simp [bne,hy0]
        have HN:=Lib.hid (A.ownGo_yes (ok:=FE) (own:=[]) (L:=A.upto x.m n ++ (l.take j).map Sh.l) (v:=t.l) (by rw [←hcI.out];exact HZ.out) (by rw [HFT.out];simpa using hy0))
        have HC2:=Lib.hid (show (own' ++ [t]).map Sh.l=A.ownGo FE [] (A.upto x.m n ++ (l.take (j + 1)).map Sh.l) by rw [HTK.out,←List.append_assoc,HN.out,List.map_append,hcI.out];rfl)
        have hl2:(own' ++ [t]).length≤own.length + (j + 1):=by rw [List.length_append,List.length_singleton];omega
        obtain ⟨w6,hw6⟩:∃ w6:World,w6=wc'.alloc (.cells #[.slice t.A t.n t.c] 48):=⟨_,rfl⟩
        obtain ⟨g6,hg6⟩:∃ g6,g6=wc'.heap.size:=⟨_,rfl⟩
        have b6:Below wc'.heap.size wc' w6:=by rw [hw6];exact bel_alloc0 _ _
        have hL6:w6.heap[g6]? = some (.cells #[.slice t.A t.n t.c] 48 (0,0)):=by rw [hw6,hg6];exact heap_alloc_new _ _
        have M3:=M1.below b6
        have hbs2:BS≤w6.heap.size:=by rw [HBS.out];exact M3.bw.size
        have hln6:own'.length≤1000000:=by omega
        clear M1 hy0
        go_wp2_with (first
         | (at_builtin;rw [←hw6,←hg6];refine app_shs rfl _ _ rfl BS (.slice E2 own'.length c2) own'.length own' rfl M3.row g6 t rfl hL6 hln6 hbs2 ?_;intro v' w7 hown7 hgrow7 hat7)
         | fail)
        have M4:=M3.app HTM.out hgrow7 hat7 hown7 HBS.out
        go_roundw
        case rel=>(go_light;exact ⟨j + 1,own' ++ [t],by go_num,hjm,by first | exact M4 | (rw [←HEA.out];exact M4),hnwI.snoc (hnE t HTM.out),fun y hy=>(List.mem_append.1 hy).elim (h6I y) (fun hy=>by rw [List.mem_singleton] at hy;rw [hy];exact ⟨h6,h4t⟩),hl2,HC2.out⟩)
        case measure=>(go_light;simp [intOf];omega)
      ·have jd:decide ((j:Int) < (m:Int))=false:=decide_eq_false (by omega)
       have jd2:decide (j < m)=false:=decide_eq_false hjm
       have hjm2:l.take j=l:=List.take_of_length_le (by have:=HSL.out;omega)
       have HE:=Lib.hid (show own'.map Sh.l=A.ownGo FE [] (A.upto x.m (n + 1)) by rw [hcI.out,hjm2,HLD.out,HD.out,HN1.out,A.upto_succ])
       have hl2:own'.length≤64 * (n + 1):=by omega
       have hnn:n + 1≤x.m:=hnm
       have HPL:=Lib.hid (show ((N1:Int) + 1)=((n + 1 + 1:Nat):Int) by rw [HN1.out];push_cast;rfl)
       have hN1x:N1≤100:=by have:=HN1.out;omega
       clear hjm2
       go_wp2_with fail
       go_roundw
       case rel=>(go_light;exact ⟨n + 1,own',by rw [←HPL.out],hnn,M.row,M.ok,hnwI,h6I,hl2,HE.out,M.bw⟩)
       case measure=>(go_light;simp [intOf];have:=HN1.out;omega)
    ·have k0:decide ((N1:Int)≤(x.m:Int))=false:=decide_eq_false (by omega)
     have k0':decide (N1≤x.m)=false:=decide_eq_false (by omega)
     clear hN1'
     have hnm2:n=x.m:=by omega
     have HOWN:=Lib.hid (show own.map Sh.l=A.own FE x.m by rw [hcO.out,hnm2];rfl)
     obtain ⟨E,c,rfl,hSE,hnc,hEn⟩:=own_shs hownO rfl hroO
     have F0:Fin3 w2 wk u12 B1 bl E own.length own:=⟨own_below hown hbO,hbo.below hbO,bel hbr hbO,hSE,fun h0 ad e e2=>(by have h1:=(own_in hown _ e2).2;have h2:=hEn ad e;have:=HBS.out;omega),fun t ht=>⟨(hroO t ht).1,fun h0 ad e e2=>(by have h1:=(own_in hown _ e2).2;have h2:=hnwO t ht h0 ad e;have:=HBS.out;omega)⟩⟩
     have hol:own.length≤384:=by omega
     have hBB:B1≤BS:=by rw [HBS.out,HB1.out];exact hbr.size
     clear hnm2 hownO hroO hSE hEn
     go_wp2_with fail
     clear k0 k0'
     go_loopw [12,22] (fun v12 v22 wf=>∃ (j:Nat) (bl':List BV),v22=.int .i64 j∧j≤own.length∧Fin3 w2 wf v12 B1 bl' E own.length own∧NewB B1 bl'∧Hid (bl'.length=bl.length + j)∧Hid (bl'.map BV.pr=bl.map BV.pr ++ (own.take j).map fun t=>((s:Int),t.l,K.labs x.nd x.l sS x.r t.l))) (fun _ v22 _=>own.length - (intOf v22).toNat)
     case atStart=>exact ⟨0,bl,rfl,Nat.zero_le _,F0,hnb,rfl,by show _=_;rw [List.take_zero,List.map_nil,List.append_nil]⟩
     case round =>
      clear F0
      obtain ⟨j,bl',rfl,hj,F,hnbF,hlb,hcb⟩:=hrel
      obtain ⟨wf,hwf⟩:∃ wf,wf=wr:=⟨_,rfl⟩
      rw [←hwf] at F
      rw [←hwf]
      clear hwf
      by_cases hjn:j < own.length
      ·obtain ⟨adE,t,hEA,hg,⟨hI,hsc,hs0⟩,hc⟩:=F.sh.at_ hjn
       have j0:(0:Int)≤(j:Int):=by omega
       have j1:(j:Int) < (own.length:Int):=by omega
       have jd:decide ((j:Int) < (own.length:Int))=true:=decide_eq_true j1
       have jd2:decide (j < own.length)=true:=decide_eq_true hjn
       have hAt:At wf (x.one sS):=(hx2.below F.bw).case HSM.out
       have HME:=Lib.hid (show ∀ w',Below wf.heap.size wf w'→(fun w':World=>w'.cell? ⟨G0,0,none⟩=some (.int .i64 x.nd)∧w'.cell? ⟨G0,1,none⟩=some (.slice x.A x.n x.c)∧w'.cell? (ads.add (s * 6))=some (.int .i64 sS.day)∧w'.cell? ⟨(ads.add (s * 6)).block,(ads.add (s * 6)).off + 1,none⟩=some (.int .i64 sS.depot)∧w'.cell? ⟨(ads.add (s * 6)).block,(ads.add (s * 6)).off + 2,none⟩=some (.int .i64 sS.start)∧w'.cell? ⟨(ads.add (s * 6)).block,(ads.add (s * 6)).off + 3,none⟩=some (.int .i64 sS.end_)∧w'.cell? ⟨(ads.add (s * 6)).block,(ads.add (s * 6)).off + 4,none⟩=some (.int .i64 sS.tare)∧w'.cell? ⟨(ads.add (s * 6)).block,(ads.add (s * 6)).off + 5,none⟩=some (.slice sS.A sS.n sS.c)∧w'.cell? (adE.add j)=some (.slice t.A t.n t.c)) w' from fun w' h=>by
        obtain ⟨a0,a1,a2,a3,a4,a5,a6,a7⟩:=HMK.out w' (bel F.bw h)
        exact ⟨a0,a1,a2,a3,a4,a5,a6,a7,(h.cell (cell_lt hc)).trans hc⟩)
       have hW0:Below wf.heap.size wf wf:=Below.refl _ _
       have hbdr:Below wf.heap.size wf wf.drew:=hW0.drew
       have S0:=HME.out _ hW0
       have S0d:=HME.out _ hbdr
       have htm:=List.mem_of_getElem? hg
       obtain ⟨h6,h4t⟩:=h6O t htm
       have HTK:=Lib.hid (show (own.take (j + 1)).map (fun t=>((s:Int),t.l,K.labs x.nd x.l sS x.r t.l))=(own.take j).map (fun t=>((s:Int),t.l,K.labs x.nd x.l sS x.r t.l)) ++ [((s:Int),t.l,K.labs x.nd x.l sS x.r t.l)] by rw [List.take_add_one,hg,List.map_append];rfl)
       have hofft:OffRow t.A t.n u12:=fun h0 ad e=>(F.lk t htm).2 h0 ad e
       have hntl:∀ g,Ft t.A t.n g→B1≤g:=fun g e=>by
        obtain ⟨h0,ad,e1,rfl⟩:=e
        have:=hnwO t htm h0 ad e1
        omega
       have HEA:=Lib.hid hEA
       have h69:t.n≤1000000000:=by omega
       have hvl:t.l.length≤6:=by omega
       have hln:bl'.length≤1000000:=by have:=hlb.out;omega
       have hwfz:=F.bw.size
       have hBf:B1≤wf.heap.size:=by rw [HB1.out];exact hwfz
       have NE:u12.ownBlock ≠ some (adE.add j).block:=fun e=>by
        rw [add_block] at e
        exact F.off (by omega) adE hEA e
       have HS10:=Lib.hid (show ∀ w',Below w2.heap.size w2 w'→w'.cell? (adE.add j)=some (.slice t.A t.n t.c)→(fun w':World=>w'.cell? ⟨G0,0,none⟩=some (.int .i64 x.nd)∧w'.cell? ⟨G0,1,none⟩=some (.slice x.A x.n x.c)∧w'.cell? (ads.add (s * 6))=some (.int .i64 sS.day)∧w'.cell? ⟨(ads.add (s * 6)).block,(ads.add (s * 6)).off + 1,none⟩=some (.int .i64 sS.depot)∧w'.cell? ⟨(ads.add (s * 6)).block,(ads.add (s * 6)).off + 2,none⟩=some (.int .i64 sS.start)∧w'.cell? ⟨(ads.add (s * 6)).block,(ads.add (s * 6)).off + 3,none⟩=some (.int .i64 sS.end_)∧w'.cell? ⟨(ads.add (s * 6)).block,(ads.add (s * 6)).off + 4,none⟩=some (.int .i64 sS.tare)∧w'.cell? ⟨(ads.add (s * 6)).block,(ads.add (s * 6)).off + 5,none⟩=some (.slice sS.A sS.n sS.c)∧w'.cell? (adE.add j)=some (.slice t.A t.n t.c)) w' from fun w' h hc'=>by
        obtain ⟨a0,a1,a2,a3,a4,a5,a6,a7⟩:=HMK.out w' h
        exact ⟨a0,a1,a2,a3,a4,a5,a6,a7,hc'⟩)
       rw [hEA,HSA.out]
       clear hg hEA htm
       go_upto_region 34 with fail
       clear jd jd2
       go_region_held3 (fun w':World=>w'.cell? ⟨G0,0,none⟩=some (.int .i64 x.nd)∧w'.cell? ⟨G0,1,none⟩=some (.slice x.A x.n x.c)∧w'.cell? (ads.add (s * 6))=some (.int .i64 sS.day)∧w'.cell? ⟨(ads.add (s * 6)).block,(ads.add (s * 6)).off + 1,none⟩=some (.int .i64 sS.depot)∧w'.cell? ⟨(ads.add (s * 6)).block,(ads.add (s * 6)).off + 2,none⟩=some (.int .i64 sS.start)∧w'.cell? ⟨(ads.add (s * 6)).block,(ads.add (s * 6)).off + 3,none⟩=some (.int .i64 sS.end_)∧w'.cell? ⟨(ads.add (s * 6)).block,(ads.add (s * 6)).off + 4,none⟩=some (.int .i64 sS.tare)∧w'.cell? ⟨(ads.add (s * 6)).block,(ads.add (s * 6)).off + 5,none⟩=some (.slice sS.A sS.n sS.c)∧w'.cell? (adE.add j)=some (.slice t.A t.n t.c))
        (first | with_reducible exact S10 | with_reducible exact S9a | with_reducible exact S9 | with_reducible exact S0d | with_reducible exact S0 | fail)
        (first
         | (go_at_call 82;refine (labels31_new (x.one sS) t.A t.n t.c t.l _ (hAt.below hbdr) (hI.below hbdr) h69).mono ?_;rintro e w9 ⟨⟨LA,ln,lc,rfl,hL9,hLn9⟩,b9⟩;have F9:=F.below (bel hbdr b9);have hB9:B1≤w9.heap.size:=Nat.le_trans hBf (bel hbdr b9).size;have a9:Below w9.heap.size w9 (w9.alloc (.cells #[.int .i64 (s:Int),.slice t.A t.n t.c,.slice LA ln lc] 90)):=(Below.refl _ _).alloc (Nat.le_refl _) _;have b9f:=bel hbdr b9;have S9:=HME.out _ b9f;have b9a:=bel b9f a9;have S9a:=HME.out _ b9a;have hoL:OffRow LA ln u12:=fun h0 ad e e2=>(by have h1:=(own_in F.row _ e2).2;have h2:=hLn9 ad e;have h3:=hbdr.size;omega);have hll:ln≤384:=(by have h1:=hL9.1;have h2:(K.labs x.nd x.l sS x.r t.l).length≤384:=K.labs_len6 hvl;have h3:ln=(K.labs x.nd x.l sS x.r t.l).length:=h1;omega))
         | (refine step_app_blk rfl (.tmp 117) (.tmp 135) rfl F9.row hB9 rfl w9.heap.size ⟨s,t.A,t.n,t.c,t.l,LA,ln,lc,K.labs x.nd x.l sS x.r t.l⟩ rfl a9 (heap_alloc_new w9 _) hln ?_;intro v' w10 hown10 hgrow10 hat10;have F10:=(F9.below a9).app HB1.out ⟨⟨(hI.below (bel hbdr b9)).below a9,Lst.below hL9 a9⟩,hofft,hoL,hsc,h6,hll⟩ hgrow10 hat10 hown10;have S10:=HS10.out w10 F10.bw (cell_growT S9a.2.2.2.2.2.2.2.2 hgrow10 NE))
         | fail)
       have hnl:∀ g,Ft LA ln g→B1≤g:=fun g e=>by
        obtain ⟨h0,ad,e1,rfl⟩:=e
        have h1:=hLn9 ad e1
        have h2:wf.drew.heap.size=wf.heap.size:=rfl
        omega
       have hnb2:NewB B1 (bl' ++ [⟨s,t.A,t.n,t.c,t.l,LA,ln,lc,K.labs x.nd x.l sS x.r t.l⟩]):=fun y hy g e=>by
        rcases List.mem_append.1 hy with hy | hy
        ·exact hnbF y hy g e
        ·rw [List.mem_singleton.1 hy] at e
         exact e.elim (hntl g) (hnl g)
       have HLN:=Lib.hid (show (bl' ++ [(⟨s,t.A,t.n,t.c,t.l,LA,ln,lc,K.labs x.nd x.l sS x.r t.l⟩:BV)]).length=bl.length + (j + 1) by rw [List.length_append,hlb.out];rfl)
       have HCB:=Lib.hid (show (bl' ++ [(⟨s,t.A,t.n,t.c,t.l,LA,ln,lc,K.labs x.nd x.l sS x.r t.l⟩:BV)]).map BV.pr=bl.map BV.pr ++ (own.take (j + 1)).map fun t=>((s:Int),t.l,K.labs x.nd x.l sS x.r t.l) by rw [HTK.out,←List.append_assoc,←hcb.out,List.map_append];rfl)
       clear F F9 S0 S0d S9 S9a S10 hL9 hLn9 a9 b9 hown10 hgrow10 hat10 hbdr hAt hc hI b9f b9a hB9 hoL hll hW0
       go_wp2_with fail
       go_roundw
       case rel=>(go_light;exact ⟨j + 1,bl' ++ [(⟨s,t.A,t.n,t.c,t.l,LA,ln,lc,K.labs x.nd x.l sS x.r t.l⟩:BV)],by go_num,hjn,by first | exact F10 | (rw [←HEA.out];exact F10),hnb2,HLN.out,HCB.out⟩)
       case measure=>(go_light;simp [intOf];omega)
      ·have jd:decide ((j:Int) < (own.length:Int))=false:=decide_eq_false (by omega)
       have jd2:decide (j < own.length)=false:=decide_eq_false hjn
       have hjn2:own.take j=own:=List.take_of_length_le (by omega)
       have HNX:=Lib.hid (show bl'.map BV.pr=K.blksUpto x.nd x.l x.ss x.r (s + 1) by
        rw [K.blksUpto_succ,←hcl.out,hcb.out,hjn2,←HRN.out,←HFE.out,←HOWN.out,List.map_map]
        congr 1
        refine List.map_congr_left fun t _=>?_
        show _=((s:Int),t.l,_)
        rw [HSS.out])
       have hl2:bl'.length≤1000 * (s + 1):=by have:=hlb.out;omega
       clear hjn2
       go_wp2_with fail
       go_roundw
       case rel=>(go_light;exact ⟨s + 1,bl',by go_num,hlt,F.row,F.ok,hnbF,hl2,HNX.out,F.bw⟩)
       case measure=>(go_light;simp [intOf];omega)
set_option maxRecDepth 100000 in
set_option maxHeartbeats 8000000 in
theorem rtcheck_any (x:C) (y:TV) (w:World) (hx:At w x) (hy:TVAt w y) (hn:y.n≤100000) (hyc:y.n≤y.c) :
  Calls Tryz.prog 87 #[.agg #[.int .i64 x.nd,.slice x.A x.n x.c],.agg #[.int .i64 x.s.day,.int .i64 x.s.depot,.int .i64 x.s.start,.int .i64 x.s.end_,.int .i64 x.s.tare,.slice x.s.A x.s.n x.s.c],.slice x.B x.m x.d,.agg #[.int .i64 y.sh,.slice y.A y.n y.c,.slice y.A' y.n' y.c',.int .i64 y.t.end_]] w fun e w'=>e=.returned (.bool (K.check x.nd x.l x.s x.r y.t))∧Below w.heap.size w w':=by
 obtain ⟨w1,hw1⟩:∃ w1:World,w1=w.alloc (.cells #[.int .i64 x.nd,.slice x.A x.n x.c] 24):=⟨_,rfl⟩
 obtain ⟨w2,hw2⟩:∃ w2:World,w2=w1.alloc (.cells #[.int .i64 x.s.day,.int .i64 x.s.depot,.int .i64 x.s.start,.int .i64 x.s.end_,.int .i64 x.s.tare,.slice x.s.A x.s.n x.s.c] 63):=⟨_,rfl⟩
 obtain ⟨w3,hw3⟩:∃ w3:World,w3=w2.alloc (.cells #[.int .i64 y.sh,.slice y.A y.n y.c,.slice y.A' y.n' y.c',.int .i64 y.t.end_] 80):=⟨_,rfl⟩
 have z1:w1.heap.size=w.heap.size + 1:=by rw [hw1];exact World.size_alloc _ _
 have z2:w2.heap.size=w.heap.size + 1 + 1:=by rw [hw2,World.size_alloc,z1]
 have b01:Below w.heap.size w w1:=by rw [hw1];exact (Below.refl _ _).alloc (Nat.le_refl _) _
 have b12:Below w1.heap.size w1 w2:=by rw [hw2];exact (Below.refl _ _).alloc (Nat.le_refl _) _
 have b23:Below w2.heap.size w2 w3:=by rw [hw3];exact (Below.refl _ _).alloc (Nat.le_refl _) _
 have hP:Net w3 w.heap.size x.nd x.A x.n x.c:=by
  have h1:Net w1 w.heap.size x.nd x.A x.n x.c:=by rw [hw1];exact Net.new _ _ _ _ _
  exact (h1.below b12).below b23
 have hS:Shf w3 (w.heap.size + 1) x.s:=by
  have h1:Shf w2 (w.heap.size + 1) x.s:=by rw [←z1,hw2];exact Shf.new _ _
  exact h1.below b23
 have hT:TBlk w3 (w.heap.size + 1 + 1) y.sh (.slice y.A y.n y.c) (.slice y.A' y.n' y.c') y.t.end_:=by rw [←z2,hw3];exact heap_alloc_new _ _
 have b3:=bel (bel b01 b12) b23
 have p0:=hP.c0
 have p1:=hP.c1
 obtain ⟨s0,s1,s2,s3,s4,s5⟩:=hS.cells
 obtain ⟨t0,t1,t2,t3⟩:=hT.cells
 rw [hw3,hw2,hw1] at p0 p1 s0 s1 s2 s3 s4 s5 t0 t1 t2 t3
 go_enter Tryz.func87,Tryz.ntmps87
 go_wp2_with fail
 rw [←hw1,←hw2,←hw3]
 clear hw1 hw2 hw3 z1 z2 b01 b12 b23 p0 p1 s0 s1 s2 s3 s4 s5 t0 t1 t2 t3
 refine (rrun_any x y.A y.n y.c y.t.stops _ (hx.below b3) (hy.below b3).stops hyc hn).mono ?_
 rintro e w4 ⟨⟨A1,n1,c1,A2,n2,c2,rfl,hI1,hI2,-⟩,b34⟩
 have hlen:=K.run_len x.nd x.l x.s x.r y.t.stops
 obtain ⟨R,hR⟩:∃ R,R=K.run x.nd x.l x.s x.r y.t.stops:=⟨_,rfl⟩
 rw [←hR] at hI1 hI2 hlen ⊢
 have HR:=Lib.hid (show K.check x.nd x.l x.s x.r y.t=((R.e == 0) && (decide (R.tour.times=y.t.times) && (R.tour.end_ == y.t.end_))) by rw [hR];rfl)
 have hn1:n1≤1000000000:=by rw [hI1.1];have:=hlen.1;have:=hy.stops.1;omega
 have hn2:n2≤1000000000:=by rw [hI2.1];have:=hlen.2;have:=hy.stops.1;omega
 have HRR:=Lib.hid hR
 clear hR hlen
 have hT:=hT.below b34
 have hb:=bel b3 b34
 have ba:Below w4.heap.size w4 (w4.alloc (.cells #[.int .i64 0,.slice A1 n1 c1,.slice A2 n2 c2,.int .i64 R.tour.end_] 80)):=(Below.refl _ _).alloc (Nat.le_refl _) _
 have hT2:TBlk (w4.alloc (.cells #[.int .i64 0,.slice A1 n1 c1,.slice A2 n2 c2,.int .i64 R.tour.end_] 80)) w4.heap.size 0 (.slice A1 n1 c1) (.slice A2 n2 c2) R.tour.end_:=heap_alloc_new _ _
 have hT1:=hT.below ba
 obtain ⟨w5,hw5⟩:∃ w5:World,w5=w4.alloc (.cells #[.int .i64 0,.slice A1 n1 c1,.slice A2 n2 c2,.int .i64 R.tour.end_] 80):=⟨_,rfl⟩
 obtain ⟨q0,q1,q2,q3⟩:=hT1.cells
 obtain ⟨r0,r1,r2,r3⟩:=hT2.cells
 cases k0:(R.e == 0)
 ·have HX:=Lib.hid (show K.check x.nd x.l x.s x.r y.t=false by rw [HR.out,k0];rfl)
  clear hw5
  go_wp2_with fail
  go_ret
  exact ⟨ret_b HX.out.symm,bel hb ba⟩
 have HX:=Lib.hid (show K.check x.nd x.l x.s x.r y.t=K.same R.tour y.t by
  have hst:R.tour.stops=y.t.stops:=by
   have h0:(K.run x.nd x.l x.s x.r y.t.stops).e=0:=by rw [←HRR.out];simpa using k0
   rw [HRR.out,(K.run_ok h0).2.2.2]
  rw [HR.out,k0]
  simp [K.same,hst])
 rw [←hw5] at ba hT1 hT2
 have hb5:=bel hb ba
 have hI15:=hI1.below ba
 have hI25:=hI2.below ba
 go_wp2_with fail
 rw [←hw5]
 clear hw5 q0 q1 q2 q3 r0 r1 r2 r3 k0 HR
 refine (sameTour_any ⟨0,A1,n1,c1,A2,n2,c2,R.tour⟩ y _ ⟨hI15,hI25,hn1,hn2⟩ (hy.below hb5)).mono ?_
 rintro e w6 ⟨rfl,b56⟩
 have hb6:=bel hb5 b56
 go_wp2_with fail
 go_ret
 exact ⟨ret_b HX.out.symm,hb6⟩
set_option maxRecDepth 100000 in
set_option maxHeartbeats 16000000 in
theorem rchecks27_any (x:Cs) (TA:Option Addr) (tn tc:Nat) (ts:List TV) (w:World) (hx:CsAt w x) (hT:Tours w TA tn ts) (hF:FewT tn ts) (hyc:∀ y ∈ ts,y.n≤y.c) :
  Calls Tryz.prog 27 #[.agg #[.int .i64 x.nd,.slice x.A x.n x.c],.slice x.SA x.sn x.sc,.slice x.B x.m x.d,.slice TA tn tc] w fun e w'=>e=.returned (.int .i64 (K.checks x.nd x.l x.ss x.r (ts.map TV.pr)))∧Below w.heap.size w w':=by
 obtain ⟨w0,hw0⟩:∃ w0:World,w0=w.alloc (.cells #[.int .i64 x.nd,.slice x.A x.n x.c] 24):=⟨_,rfl⟩
 have b0:Below w.heap.size w w0:=by rw [hw0];exact (Below.refl _ _).alloc (Nat.le_refl _) _
 obtain ⟨G0,hG0⟩:∃ G0,G0=w.heap.size:=⟨_,rfl⟩
 have hN:Net w0 G0 x.nd x.A x.n x.c:=by rw [hw0,hG0];exact Net.new w x.nd x.A x.n x.c
 have p0:=hN.c0
 have p1:=hN.c1
 go_enter Tryz.func27,Tryz.ntmps27
 go_wp2_with fail
 rw [←hw0,←hG0]
 clear hw0 hG0
 refine (rstart69_any x _ (hx.below b0)).mono ?_
 obtain ⟨ce,hce⟩:∃ ce,ce=K.pcheck x.nd x.l x.ss x.r:=⟨_,rfl⟩
 rw [←hce]
 rintro e w1 ⟨rfl,b1⟩
 have hN1:=hN.below b1
 have hb1:=bel b0 b1
 clear p0 p1 b0 b1 hN
 by_cases hz:ce=0
 rotate_left
 ·have HX:=Lib.hid (show K.checks x.nd x.l x.ss x.r (ts.map TV.pr)=ce by rw [hce] at hz ⊢;exact K.checks_net hz)
  have hd:(ce != 0)=true:=by simp [bne,hz]
  clear hce
  go_wp2_with fail
  go_ret
  exact ⟨by rw [HX.out];rfl,hb1⟩
 subst hz
 have HOK:=Lib.hid hce.symm
 clear hce
 have HSN:=Lib.hid hx.shifts.1.1
 have HRN:=Lib.hid hx.reqs.1
 have HTN:=Lib.hid hT.1.1
 have hm6:x.m≤6:=by rw [HRN.out];exact (K.pcheck_ok HOK.out).2.2.2.2
 have hsn4:x.sn≤4:=by rw [HSN.out];exact (K.pcheck_ok HOK.out).2.1
 have HCK:=Lib.hid (show K.checks x.nd x.l x.ss x.r (ts.map TV.pr)=_ from K.checks_go HOK.out)
 obtain ⟨L,hL⟩:∃ L,L=ts.map TV.pr:=⟨_,rfl⟩
 rw [←hL] at HCK
 have HL:=Lib.hid hL
 obtain ⟨htn9,hty⟩:=hF
 have HYC:=Lib.hid hyc
 clear hyc
 clear hL
 have hown0:w1.ownsRow w1.heap.size 3 1 (.slice none 0 0) ([]:List Int).length (intCells []):=World.ownsRow_nil _ _ _ _
 go_wp2_with fail
 go_loopw [10,11] (fun v10 v11 wr=>∃ (k:Nat) (last:Int) (served:List Int),v11=.int .i64 k∧k≤tn∧wr.ownsRow w1.heap.size 3 1 v10 served.length (intCells served)∧Below w1.heap.size w1 wr∧Hid (served.Nodup∧(∀ z ∈ served,0≤z∧z < (x.m:Int)))∧served.length≤6∧Hid (K.checks x.nd x.l x.ss x.r L=K.checkGo x.nd x.l x.ss x.r last served (L.drop k))∧Hid ((k=0∧last=-1)∨∃ j y,k=j + 1∧ts[j]? = some y∧y.sh=last)) (fun _ v11 _=>tn - (intOf v11).toNat)
 case atStart=>exact ⟨0,-1,[],rfl,Nat.zero_le _,hown0,Below.refl _ _,⟨List.nodup_nil,fun z hz=>(by cases hz)⟩,Nat.zero_le _,HCK.out,.inl ⟨rfl,rfl⟩⟩
 case round =>
  clear hown0
  obtain ⟨k,last,served,rfl,hk,hown,hbr,hsv,hl6,hck,hla⟩:=hrel
  by_cases hlt:k < tn
  ·obtain ⟨ad,y,hTA,hy,⟨hI1,hI2⟩,c0,c1,c2,c3⟩:=(hT.below (bel hb1 hbr)).at_ hlt
   have HYM:=Lib.hid (List.mem_of_getElem? hy)
   obtain ⟨hyn,hyn'⟩:=hty y (List.mem_of_getElem? hy)
   have hLk:L[k]? = some y.pr:=by rw [HL.out,List.getElem?_map,hy];rfl
   have HDR:=Lib.hid (show K.checks x.nd x.l x.ss x.r L=K.checkGo x.nd x.l x.ss x.r last served (y.pr :: L.drop (k + 1)) by rw [hck.out,drop_of_some hLk])
   have HLA2:=Lib.hid (show ts[k]? = some y from hy)
   have k0:(0:Int)≤(k:Int):=by omega
   have k1:(k:Int) < (tn:Int):=by omega
   obtain ⟨g,hg⟩:∃ g,g=wr.heap.size:=⟨_,rfl⟩
   obtain ⟨w3,hw3⟩:∃ w3:World,w3=wr.alloc (.cells #[.int .i64 y.sh,.slice y.A y.n y.c,.slice y.A' y.n' y.c',.int .i64 y.t.end_] 80):=⟨_,rfl⟩
   have b3:Below wr.heap.size wr w3:=by rw [hw3];exact (Below.refl _ _).alloc (Nat.le_refl _) _
   have hB3:TBlk w3 g y.sh (.slice y.A y.n y.c) (.slice y.A' y.n' y.c') y.t.end_:=by rw [hw3,hg];exact heap_alloc_new _ _
   have hown3:=own_below hown b3
   have hb3:=bel hbr b3
   have hI13:=hI1.below b3
   have hI23:=hI2.below b3
   have hN3:=hN1.below hb3
   have hTp:=hT.below (bel hb1 hb3)
   clear hy hLk hck hown hI1 hI2 hbr
   have HYN:=Lib.hid hI13.1
   obtain ⟨t0,t1,t2,t3⟩:=hB3.cells
   rw [hTA]
   go_upto_region 9 with fail
   rw [←hw3,←hg]
   clear hw3 hg c0 c1 c2 c3 b3
   by_cases hneg:y.sh < 0
   ·have hd1:decide (y.sh < 0)=true:=decide_eq_true hneg
    have HX:=Lib.hid (show K.checks x.nd x.l x.ss x.r L=1 by rw [HDR.out];exact K.cg_neg (.inl hneg))
    clear hneg
    go_wp2_with fail
    go_ret
    exact ⟨by rw [←HL.out,HX.out];rfl,bel hb1 hb3⟩
   have hd1:decide (y.sh < 0)=false:=decide_eq_false hneg
   by_cases hbig:(x.sn:Int)≤y.sh
   ·have hd2:decide ((x.sn:Int)≤y.sh)=true:=decide_eq_true hbig
    have HX:=Lib.hid (show K.checks x.nd x.l x.ss x.r L=1 by rw [HDR.out];exact K.cg_neg (.inr (by rw [←HSN.out];exact hbig)))
    clear hneg hbig
    go_wp2_with fail
    go_ret
    exact ⟨by rw [←HL.out,HX.out];rfl,bel hb1 hb3⟩
   have hd2:decide ((x.sn:Int)≤y.sh)=false:=decide_eq_false hbig
   obtain ⟨s,hs⟩:∃ s:Nat,y.sh=(s:Int):=⟨y.sh.toNat,by omega⟩
   have hsn:s < x.sn:=by omega
   obtain ⟨ads,sS,hSA,hsS,hIS,s0,s1,s2,s3,s4,s5⟩:=((hx.below hb1).below hb3).shifts.at_ hsn
   have HST:Hid (K.checks x.nd x.l x.ss x.r L=if y.sh≤last then 5 else if y.t.stops.isEmpty || !(K.check x.nd x.l sS x.r y.t) then 24 else if y.t.stops.any (fun k=>served.any (· == k)) then 5 else K.checkGo x.nd x.l x.ss x.r y.sh (served ++ y.t.stops) (L.drop (k + 1))) :=
    Lib.hid (HDR.out.trans (K.cg_some (t:=y.pr) (by show 0≤y.sh;omega) (by show x.ss[y.sh.toNat]? = _;rw [hs];exact hsS)))
   have hsm:=List.mem_of_getElem? hsS
   have HSS:=Lib.hid hs
   have HSX:=Lib.hid hsS
   clear hs HDR hsS hneg hbig hSA
   obtain ⟨zl,hzl⟩:∃ z,z=decide (y.sh≤last):=⟨_,rfl⟩
   have HZL:=Lib.hid hzl
   clear hzl
   go_upto_region 11 with fail
   clear hd1 hd2
   go_cut [54] from 41 to 54 (fun v54 wc=>v54=.bool zl∧Below w3.heap.size w3 wc)
   case first =>
    have q0:=Beh.cell t0
    rcases hla.out with ⟨rfl,hl9⟩ | ⟨j,yj,rfl,hyj,hl9⟩
    ·have hz0:zl=false:=by rw [HZL.out,hl9,HSS.out];simp;omega
     subst hz0
     have f1:decide ((0:Int) < ((0:Nat):Int))=false:=by decide
     clear s0 s1 s2 s3 s4 s5 t0 t1 t2 t3
     refine reg_beh (by kernel_rfl) (by kernel_rfl) ?_
     repeat (go_big_quiet_step (fail))
     refine wpQuiet_nil ?_
     rintro w4 ⟨⟨w4,b4⟩,rfl⟩
     go_wp2_with fail
     go_meet
     exact ⟨rfl,b4⟩
    ·obtain ⟨adj,yj',hTA',hyj',-,cj0,-,-,-⟩:=hTp.at_ (show j < tn by omega)
     rw [hTA] at hTA'
     injection hTA' with hTA'
     subst hTA'
     rw [hyj] at hyj'
     injection hyj' with hyj'
     subst hyj'
     have qj:=Beh.cell cj0
     have f1:decide ((0:Int) < ((j + 1:Nat):Int))=true:=by simp
     have f2:((j + 1:Nat):Int) - 1=(j:Int):=by omega
     have f3:IntKind.i64.wrap (((j + 1:Nat):Int) - 1)=(j:Int):=by rw [f2];exact IntWalk.i64_in _ (by omega)
     have f4:decide ((j:Int) < 0)=false:=by simp
     have f5:max (j:Int) 0=(j:Int):=by omega
     have f6:(j:Int) < (tn:Int):=by omega
     have f7:(0:Int)≤(j:Int):=by omega
     have f8:decide (y.sh≤yj.sh)=zl:=by rw [HZL.out,hl9]
     clear s0 s1 s2 s3 s4 s5 t0 t1 t2 t3 hyj hl9
     refine reg_beh (by kernel_rfl) (by kernel_rfl) ?_
     repeat (go_big_quiet_step (fail))
     refine wpQuiet_nil ?_
     rintro w4 ⟨⟨w4,b4⟩,rfl⟩
     go_wp2_with fail
     go_meet
     trace_state
     exact ⟨rfl,b4⟩
   case rest =>
    obtain ⟨rfl,b4⟩:=hcut
    have hB4:=hB3.below b4
    have hown4:=own_below hown3 b4
    have hb4:=bel hb3 b4
    have hI14:=hI13.below b4
    have hI24:=hI23.below b4
    have hN4:=hN3.below b4
    have hx4:=((hx.below hb1).below hb3).below b4
    clear t0 t1 t2 t3 s0 s1 s2 s3 s4 s5 hB3 hown3 hI13 hI23 hN3 hTp hIS
    cases zl
    rotate_left
    ·have HX:=Lib.hid (show K.checks x.nd x.l x.ss x.r L=5 by rw [HST.out,if_pos (of_decide_eq_true HZL.out.symm)])
     go_wp2_with fail
     go_ret
     exact ⟨by rw [←HL.out,HX.out];rfl,bel hb1 hb4⟩
    have HST2:=Lib.hid (HST.out.trans (if_neg (of_decide_eq_false HZL.out.symm)))
    obtain ⟨t0,t1,t2,t3⟩:=hB4.cells
    clear HST HZL
    go_wp2_with fail
    by_cases hn0:y.n=0
    ·have hd4:((y.n:Int) == 0)=true:=by rw [hn0];rfl
     have hd5:decide ((y.n:Int)=0)=true:=by rw [hn0];rfl
     have HX:=Lib.hid (show K.checks x.nd x.l x.ss x.r L=24 by
      rw [HST2.out,show y.t.stops=[] from List.length_eq_zero_iff.1 (by rw [←HYN.out];exact hn0)];rfl)
     clear hn0
     go_quiet (fail)
     go_wp2_with fail
     go_ret
     exact ⟨by rw [←HL.out,HX.out];rfl,bel hb1 (below_drewN hb4 _)⟩
    have hd4:((y.n:Int) == 0)=false:=by simp [hn0]
    have hd5:decide ((y.n:Int)=0)=false:=by simp [hn0]
    have hie:y.t.stops.isEmpty=false:=by
     cases he:y.t.stops with
     | nil=>have h9:=HYN.out;rw [he] at h9;exact absurd h9 hn0
     | cons a b=>rfl
    rw [hie,Bool.false_or] at HST2
    obtain ⟨ads',sS',hSA',hsS',hIS',s0,s1,s2,s3,s4,s5⟩:=hx4.shifts.at_ hsn
    obtain rfl:sS'=sS:=by have:=HSX.out;rw [hsS'] at this;injection this
    have p0:=Beh.cell hN4.c0
    have p1:=Beh.cell hN4.c1
    have q0:=Beh.cell t0
    have q1:=Beh.cell t1
    have q2:=Beh.cell t2
    have q3:=Beh.cell t3
    have r0:=Beh.cell s0
    have r1:=Beh.cell s1
    have r2:=Beh.cell s2
    have r3:=Beh.cell s3
    have r4:=Beh.cell s4
    have r5:=Beh.cell s5
    obtain ⟨cb,hcb⟩:∃ cb,cb=K.check x.nd x.l sS' x.r y.t:=⟨_,rfl⟩
    have HCB:=Lib.hid hcb
    rw [←hcb] at HST2
    have CT2:∀ i:Beh wc,Calls Tryz.prog 87 #[.agg #[.int .i64 x.nd,.slice x.A x.n x.c],.agg #[.int .i64 sS'.day,.int .i64 sS'.depot,.int .i64 sS'.start,.int .i64 sS'.end_,.int .i64 sS'.tare,.slice sS'.A sS'.n sS'.c],.slice x.B x.m x.d,.agg #[.int .i64 s,.slice y.A y.n y.c,.slice y.A' y.n' y.c',.int .i64 y.t.end_]] i.val fun e w'=>e=.returned (.bool cb)∧Below i.val.heap.size i.val w':=fun i=>by
     rw [hcb]
     have h9:=rtcheck_any (x.one sS') y i.val ((hx4.below i.property).case hsm) ⟨hI14.below i.property,hI24.below i.property,by omega,hyn'⟩ hyn (HYC.out y HYM.out)
     rw [HSS.out] at h9
     exact h9
    have ks0:(0:Int)≤(s:Int):=by omega
    have ks1:(s:Int) < (x.sn:Int):=by omega
    clear hcb hie hn0 hsS' hIS' s0 s1 s2 s3 s4 s5
    rw [HSS.out] at t0 q0
    rw [hSA']
    have HSA:=Lib.hid hSA'
    clear hSA'
    refine reg_beh (by kernel_rfl) (by kernel_rfl) ?_
    repeat (go_big_quiet_step ((go_at_call 87;exact Beh.calls (CT2 _))))
    refine wpQuiet_nil ?_
    rintro w5 ⟨⟨w5,b5⟩,rfl⟩
    rw [←HSA.out]
    have hB5:=hB4.below b5
    have hown5:=own_below hown4 b5
    have hb5:=bel hb4 b5
    have hI15:=hI14.below b5
    clear p0 p1 q0 q1 q2 q3 r0 r1 r2 r3 r4 r5 t0 t1 t2 t3 CT2 hB4 hown4 hI14 hI24 hN4 hx4 hd4 hd5 ks0 ks1 b5 b4
    obtain ⟨t0,t1,t2,t3⟩:=hB5.cells
    cases cb
    ·have HX:=Lib.hid (show K.checks x.nd x.l x.ss x.r L=24 by rw [HST2.out];rfl)
     clear t0 t1 t2 t3
     go_wp2_with fail
     go_ret
     exact ⟨by rw [←HL.out,HX.out];rfl,bel hb1 hb5⟩
    rw [show (!true)=false from rfl]
    obtain ⟨-,hst2,hst3⟩:=K.check_run HCB.out.symm
    have HS3:=Lib.hid hst3
    have HS2:=Lib.hid (show ∀ z ∈ y.t.stops,0≤z∧z < (x.m:Int) from fun z hz=>by have:=hst2 z hz;have:=HRN.out;omega)
    have HST3:=Lib.hid (show K.checks x.nd x.l x.ss x.r L=if y.t.stops.any (fun k=>served.any (· == k)) then 5 else K.checkGo x.nd x.l x.ss x.r y.sh (served ++ y.t.stops) (L.drop (k + 1)) by rw [HST2.out];rfl)
    have hown5c:=hown5
    obtain ⟨A9,c9,rfl,hRd9,hF9⟩:=own_form hown5c
    clear hown5c
    have hIs:Ints w5 A9 served.length served:=⟨rfl,hRd9⟩
    clear HST2 hst2 hst3 t0 t1 t2 t3
    go_wp2_with fail
    go_loopw [13] (fun v13 wi=>∃ j:Nat,v13=.int .i64 j∧j≤y.n∧Hid (y.t.stops.any (fun k=>served.any (· == k))=(y.t.stops.drop j).any (fun k=>served.any (· == k)))∧Below w5.heap.size w5 wi) (fun v13 _=>y.n - (intOf v13).toNat)
    case atStart=>exact ⟨0,rfl,Nat.zero_le _,(by show _=_;rw [List.drop_zero]),Below.refl _ _⟩
    case round =>
     obtain ⟨j,rfl,hj,hany,hbi⟩:=hrel
     have hBi:=hB5.below hbi
     obtain ⟨t0,t1,t2,t3⟩:=hBi.cells
     by_cases hltj:j < y.n
     ·obtain ⟨ady,z,hyA,hz,cz⟩:=(hI15.below hbi).at_ hltj
      have HAN:=Lib.hid (drop_any (p:=fun k=>served.any (· == k)) hz)
      obtain ⟨hb_,hhb⟩:∃ b,b=served.any (· == z):=⟨_,rfl⟩
      have HHB:=Lib.hid hhb
      have CH:=has55_any A9 served.length c9 served z wr (hIs.below hbi) (by omega)
      rw [←hhb] at CH
      have kj0:(0:Int)≤(j:Int):=by omega
      have kj1:(j:Int) < (y.n:Int):=by omega
      clear hz hhb
      rw [hyA] at t1
      clear hyA
      go_wp2_with fail
      refine CH.mono ?_
      rintro e w6 ⟨rfl,b6⟩
      have hb6:=bel hbi b6
      clear t0 t1 t2 t3 CH
      cases hb_
      ·go_wp2_with fail
       go_roundw
       case rel=>(go_light;exact ⟨j + 1,by go_num,hltj,(by show _=_;rw [hany.out,HAN.out,←HHB.out];rfl),hb6⟩)
       case measure=>(go_light;simp [intOf];omega)
      ·have HX:=Lib.hid (show K.checks x.nd x.l x.ss x.r L=5 by rw [HST3.out,hany.out,HAN.out,←HHB.out];rfl)
       go_wp2_with fail
       go_ret
       exact ⟨by rw [←HL.out,HX.out];rfl,bel hb1 (bel hb5 hb6)⟩
     ·have hd:decide ((j:Int) < (y.n:Int))=false:=by simp;omega
      have hd2:decide (j < y.n)=false:=by simp;omega
      have HDB:=Lib.hid (show y.t.stops.any (fun k=>served.any (· == k))=false by
       rw [hany.out,List.drop_eq_nil_of_le (by rw [←HYN.out];omega)];rfl)
      have HST4:=Lib.hid (show K.checks x.nd x.l x.ss x.r L=K.checkGo x.nd x.l x.ss x.r y.sh (served ++ y.t.stops) (L.drop (k + 1)) by rw [HST3.out,HDB.out];rfl)
      have hnd:=K.nodup_app hsv.out.1 HS3.out HDB.out
      have hrg:∀ z ∈ served ++ y.t.stops,0≤z∧z < (x.m:Int):=fun z hz=>(List.mem_append.1 hz).elim (hsv.out.2 z) (HS2.out z)
      have hlen:=K.nodup_len hnd hrg
      have hln6:(served ++ y.t.stops).length≤6:=by omega
      have HND:=Lib.hid (And.intro hnd hrg)
      have HSN2:=Lib.hid (show y.n=y.t.stops.length from HYN.out)
      have hown6:=own_below hown5 hbi
      have hIy:=hI15.below hbi
      obtain ⟨i0,hi,hz0,hz1,hz2⟩:=info_parts Tryz.info3
      have hl9:served.length + y.n≤1000:=by rw [List.length_append] at hln6;have:=HYN.out;omega
      have hsz9:w1.heap.size≤wr.heap.size:=Nat.le_trans hb5.size hbi.size
      have hb6:=bel hb5 hbi
      have HKT:=Lib.hid (show k + 1≤tn from hlt)
      clear hnd hrg hlen hlt HST3 hany hltj hj
      go_wp2_with (first
       | (at_builtin;refine wp_append_rd rfl _ _ 48 rfl w1.heap.size 3 i0 (.int .i64 0) 1 8 Tryz.underlying48 hi hz0 hz1 hz2 rfl (by decide) _ served.length (intCells served) rfl hown6 y.A y.n y.c (intCells y.t.stops) rfl hIy.2 (intCells_one _) (by simp only [maxLen];omega) (by omega) hsz9 ?_;intro v7 w7 hown7 hgr7 _)
       | fail)
      have hb7:Below w1.heap.size w1 w7:=below_own2 hb6 hgr7 (fun g e=>(hown6.lt g e).1)
      have hown7':w7.ownsRow w1.heap.size 3 1 v7 (served ++ y.t.stops).length (intCells (served ++ y.t.stops)):=by
       rw [List.length_append,←HSN2.out,intCells_app]
       exact hown7
      clear hown7 hown6 t0 t1 t2 t3
      go_roundw
      case rel=>(go_light;exact ⟨k + 1,y.sh,served ++ y.t.stops,by go_num,HKT.out,hown7',hb7,HND.out,hln6,HST4.out,.inr ⟨k,y,rfl,HLA2.out,rfl⟩⟩)
      case measure=>(go_light;simp [intOf];omega)
  ·have HE:=Lib.hid (show K.checks x.nd x.l x.ss x.r L=if served.length < x.m then 4 else 0 by
    rw [hck.out,List.drop_eq_nil_of_le (by rw [HL.out,List.length_map,←HTN.out];omega),HRN.out]
    rfl)
   have hdk:decide ((k:Int) < (tn:Int))=false:=by simp;omega
   have hdk2:decide (k < tn)=false:=by simp;omega
   obtain ⟨A9,c9,rfl,-,-⟩:=own_form hown
   by_cases hlm:served.length < x.m
   ·have hd:decide ((served.length:Int) < (x.m:Int))=true:=by simp;omega
    have hdn:decide (served.length < x.m)=true:=decide_eq_true hlm
    go_wp2_with fail
    go_ret
    exact ⟨by rw [←HL.out,HE.out,if_pos hlm];rfl,bel hb1 hbr⟩
   ·have hd:decide ((served.length:Int) < (x.m:Int))=false:=by simp;omega
    have hdn:decide (served.length < x.m)=false:=decide_eq_false hlm
    go_wp2_with fail
    go_ret
    exact ⟨by rw [←HL.out,HE.out,if_neg hlm];rfl,bel hb1 hbr⟩
end Go.Proofs.YtippdjmpkafifaaGreat
