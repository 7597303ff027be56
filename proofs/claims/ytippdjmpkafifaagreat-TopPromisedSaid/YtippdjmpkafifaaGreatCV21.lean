import Derived.Test.YtippdjmpkafifaaGreatCV20
import Derived.Test.YtippdjmpkafifaaGreatCV14
import Derived.Test.YtippdjmpkafifaaGreatCV16
namespace Go.Proofs.YtippdjmpkafifaaGreat
open Go.RowKit
namespace Vt
theorem new_int (w:World) (p:Int):∀ (j:Nat) (u:Value),([Value.int .i64 p])[j]? = some u→(w.alloc (.cells #[.int .i64 p] 3)).cell? ((⟨w.heap.size,0,none⟩:Addr).add j)=some u:=fun j u hu=>by
 rw [add_zero_block]
 exact blk_cell (heap_alloc_new w _) j u (by simpa using hu)
theorem one_int (p:Int):∀ u ∈ [Value.int .i64 p],u.oneCell'=true:=fun u hu=>by
 simp at hu;subst hu;rfl
theorem Same3.set {w w1:World} {b:Nat} {r s:Option Nat} (h:Same3 w w1 b r s) (i:Nat) (x:Value):Same3 w (w1.setCell ⟨b,i,none⟩ x) b r s :=
 ⟨h.os,h.tape,h.output,by show _≤(w1.heap.modify _ _).size;rw [Array.size_modify];exact h.size,fun k hk h1 h2 h3=>(Below.heap_setCell w1 ⟨b,i,none⟩ x k h1).trans (h.block k hk h1 h2 h3)⟩
set_option maxRecDepth 100000 in
set_option maxHeartbeats 16000000 in
theorem build_yes (A:Option Addr) (n c:Nat) (v:List It) (B:Option Addr) (m d:Nat) (l:List Ln) (w:World) (hv:Items w A n v) (hl:Lines w B m l)
  (h1:K.sound v=true) (h2:(l.any fun x=>!K.right x)=false) (hm0:m ≠ 0) (hm:m≤64) (hnm:n + 2 * m≤1001) :
  Calls Tryz.prog 114 #[.agg #[.slice A n c],.slice B m d] w fun e w'=>BuiltAt (K.build v l) e w'∧Below w.heap.size w w':=by
 have b0:=((Below.refl w.heap.size w).alloc (Nat.le_refl _) (.cells #[.slice A n c] 142)).alloc (by simp) (.cells #[.slice none 0 0] 142)
 have hP0:=blk_alloc (vbox w A n c) (.cells #[.slice none 0 0] 142)
 have sz:=World.size_alloc w (.cells #[.slice A n c] 142)
 have hO0:((w.alloc (.cells #[.slice A n c] 142)).alloc (.cells #[.slice none 0 0] 142)).heap[w.heap.size + 1]? = some (.cells #[.slice none 0 0] 142 (0,0)):=heap_alloc_at _ _ _ sz.symm
 have H1:=Lib.hid h1
 have H2:=Lib.hid h2
 have hri:∀ x ∈ l,K.right x=true:=fun x hx=>by
  have:=List.any_eq_false.1 h2 x hx
  simpa using this
 have HRI:=Lib.hid hri
 have e0:((m:Int) == 0)=false:=by simp;omega
 have hne:l.isEmpty=false:=by
  cases l with
  | nil=>exact absurd hl.1 hm0
  | cons a l=>rfl
 have HB:=Lib.hid (show K.build v l=if 1125899906842624 < K.cents l then ⟨[],-1,[],3⟩ else ⟨(K.levels l.length (v ++ l.map K.leafIt) (K.idx v.length l)).1,(K.levels l.length (v ++ l.map K.leafIt) (K.idx v.length l)).2,K.idx v.length l,0⟩ by
  unfold K.build
  rw [h1,h2,hne,if_neg (by simp),if_neg (by rw [←hl.1,←hv.1];omega)])
 have HCE:=Lib.hid (fun k (hk:k≤m)=>show 0≤K.cents (l.take k)∧K.cents (l.take k)≤1125899906842624 * 64 from by
  have:=K.cents_bound (l:=l.take k) fun x hx=>hri x (List.mem_of_mem_take hx)
  have h9:(l.take k).length≤64:=by rw [List.length_take,←hl.1];omega
  omega)
 have h64:decide ((64:Int) < (m:Int))=false:=by simp;omega
 have hbig:decide ((1000:Int) < (n:Int) + 2 * (m:Int) - 1)=false:=by simp;omega
 clear h1 h2 hri hne hm0
 go_enter Tryz.func114,Tryz.ntmps114
 go_wp2_with fail
 refine (sound_any A n c v _ (hv.below b0) (by omega)).mono ?_;rw [H1.out];rintro e w1 ⟨rfl,b1⟩
 go_wp2_with fail
 refine (contains_any B m d l _ ((hl.below b0).below b1) (by omega)).mono ?_;rw [H2.out];rintro e w2 ⟨rfl,b2⟩
 have b3:=b1.trans (b2.mono b1.size)
 have hP2:=blk_below b3 hP0
 have hO2:=blk_below b3 hO0
 have hb2:=bel b0 b3
 have p0:w2.cell? ⟨w.heap.size,0,none⟩=some (.slice A n c):=blk_cell hP2 0 _ rfl
 clear b1 b2 b3 b0 hP0 hO0 sz
 go_wp2_with fail
 refine (clone_items A n c v _ (hv.below hb2) (by omega)).mono ?_
 rintro e w3 ⟨⟨vv,rfl,hvv⟩,b3⟩
 obtain ⟨Av,cv,rfl,_,h9⟩:=own_form hvv
 have hbb:(Value.slice Av n cv).ownBlock ≠ some w3.heap.size:=fun e=>by
  have:=(h9 _ e).2;omega
 clear h9
 have bld0:Bld w2.heap.size w3.heap.size (w3.alloc (.cells #[.slice Av n cv] 194)) (.slice Av n cv) v:=⟨(MapKept.heap_alloc w3 _).1,by rw [←hv.1];exact hvv.alloc _,hbb⟩
 have b4:=b3.alloc b3.size (.cells #[.slice Av n cv] 194)
 clear hvv hbb p0 hP2
 go_wp2_with fail
 obtain ⟨w4,hw4⟩:∃ w4,w4=w3.alloc (.cells #[.slice Av n cv] 194):=⟨_,rfl⟩
 rw [←hw4] at bld0 b4 ⊢
 have hbb2:w2.heap.size≤w3.heap.size:=b3.size
 have hbb4:w3.heap.size < w4.heap.size:=lt_of_block bld0.blk
 clear hw4
 generalize w3.heap.size=bb at *
 clear b3
 go_loopw [6,9,54] (fun vu vs vi wr=>∃ (k:Nat) (vv:Value),vi=.int .i64 k∧k≤m∧vs=.int .i64 (K.cents (l.take k))∧Bld w2.heap.size bb wr vv (v ++ (l.take k).map K.leafIt)∧Apart w2.heap.size bb wr vv vu (K.idx n (l.take k))∧Below w2.heap.size w2 wr) (fun _ _ vi _=>m - (intOf vi).toNat)
 case atStart=>exact ⟨0,.slice Av n cv,rfl,by omega,rfl,by simpa using bld0,⟨World.ownsRow_nil _ _ _ _,by simp [Value.ownBlock],fun g h=>by cases h⟩,b4⟩
 case round =>
  obtain ⟨k,vv,rfl,hk,rfl,hB,hU,hbr⟩:=hrel
  have hbw:=bel hb2 hbr
  obtain ⟨sk,hsk⟩:∃ x,x=K.cents (l.take k):=⟨_,rfl⟩
  obtain ⟨s0,s1⟩:=HCE.out k hk
  rw [←hsk] at s0 s1 ⊢
  by_cases hlt:k < m
  ·obtain ⟨adl,x,rfl,hx,c0,c1,c2⟩:=Lines.at_ (hl.below hbw) hlt
   have hxr:=K.right_cents (HRI.out x (List.mem_of_getElem? hx))
   have HS:=Lib.hid (show K.cents (l.take (k + 1))=sk + x.cents by rw [take_snoc hx,K.cents_snoc,hsk])
   have HI:=Lib.hid (show K.idx n (l.take (k + 1))=K.idx n (l.take k) ++ [((n + k:Nat):Int)] by
    rw [take_snoc hx,K.idx_snoc,List.length_take,←hl.1,Nat.min_eq_left hk])
   have HV:=Lib.hid (show v ++ (l.take (k + 1)).map K.leafIt=(v ++ (l.take k).map K.leafIt) ++ [K.leafIt x] by
    rw [take_snoc hx,List.map_append,List.append_assoc];rfl)
   have hlen:(v ++ (l.take k).map K.leafIt).length=n + k:=by
    rw [List.length_append,List.length_map,List.length_take,←hl.1,←hv.1,Nat.min_eq_left hk]
   have hul:(K.idx n (l.take k)).length=k:=by rw [K.idx_len,List.length_take,←hl.1,Nat.min_eq_left hk]
   have HSK:=Lib.hid hsk
   clear hx hsk
   go_wp2_with fail
   obtain ⟨wa,hwa⟩:∃ wa,wa=wr.alloc (.cells #[.int .i64 x.hh,.int .i64 x.cents,.int .i64 x.bl] 146):=⟨_,rfl⟩
   have hba:Below wr.heap.size wr wa:=by rw [hwa];exact (Below.refl _ _).alloc (Nat.le_refl _) _
   have hbra:=hbr.trans (hba.mono hbr.size)
   rw [←hwa]
   clear hwa
   refine (add_any bb w2.heap.size vv (n + k) (v ++ (l.take k).map K.leafIt) (K.leafIt x) wa (blk_below hba hB.blk) (own_below (by have:=hB.own;rwa [hlen] at this) hba) hB.ne hbra.size (by omega)).mono ?_
   rintro e w5 ⟨rfl,vv',hb',ho',hT,hN,hne'⟩
   have hB5:Bld w2.heap.size bb w5 vv' ((v ++ (l.take k).map K.leafIt) ++ [K.leafIt x]):=⟨hb',by rw [List.length_append,hlen];exact ho',hne'⟩
   have hU5:Apart w2.heap.size bb w5 vv' u6 (K.idx n (l.take k)):=⟨hT.own (own_below hU.own hba) hU.ne hU.dis,hU.ne,fun g h e=>by
    rcases hN with h9 | ⟨k9,h9,h8⟩
    ·exact hU.dis g h (h9 ▸ e)
    ·rw [h9] at e;injection e with e
     have:=(hU.own.lt g h).2
     have:=hba.size
     omega⟩
   have hbr5:Below w2.heap.size w2 w5:=hT.below hbra hbra.size hbb2 (fun g h=>(hB.own.lt g h).1)
   have hu5:=hU5.own
   rw [hul] at hu5
   clear hT hN hba hbra hb' ho' hne' hB hU
   go_wp2_with (at_builtin;refine app_int rfl (.tmp 62) (.tmp 69) rfl w2.heap.size _ _ _ rfl (hu5.alloc _) w5.heap.size ((n + k:Nat):Int) rfl (heap_alloc_at _ _ _ rfl) (by omega) (by have:=hbr5.size;rw [World.size_alloc];omega) ?_;intro u' w6 hown6 hgrow6 hat6)
   have hown7:w6.ownsRow w2.heap.size 3 1 u' (K.idx n (l.take (k + 1))).length (intCells (K.idx n (l.take (k + 1)))):=by
    rw [HI.out,List.length_append,hul,Int.natCast_add];exact hown6
   obtain ⟨hB6,hU6⟩:=bld_append hB5 hU5 hgrow6 hown7 hat6
   have hbr6:Below w2.heap.size w2 w6:=(hbr5.alloc hbr5.size _).grown hgrow6 (by have:=hbr5.size;rw [World.size_alloc];omega) (fun g h=>(hU5.own.lt g h).1)
   clear hgrow6 hat6 hown6 hown7 hB5 hU5 hu5
   go_roundw
   case rel=>exact ⟨k + 1,vv',by go_num,by omega,by rw [HS.out],by rw [HV.out];exact hB6,hU6,hbr6⟩
   case measure=>simp [intOf];omega
  ·have hkm:k=m:=by omega
   subst hkm
   have etl:l.take k=l:=List.take_of_length_le (by rw [←hl.1];exact Nat.le_refl _)
   rw [etl] at hB hU hsk
   have HSK:=Lib.hid hsk
   clear hsk
   by_cases hce:sk≤1125899906842624
   rotate_left
   ·have HX:=Lib.hid (show K.build v l=⟨[],-1,[],3⟩ by rw [HB.out,if_pos (by rw [←HSK.out];omega)])
    have q:decide (1125899906842624 < sk)=true:=by simpa using hce
    have hO9:=blk_below hbr hO2
    have o0:wr.cell? ⟨w.heap.size + 1,0,none⟩=some (.slice none 0 0):=blk_cell hO9 0 _ rfl
    have of:wr.frozen? ⟨w.heap.size + 1,0,none⟩=false:=by simp [World.frozen?,hO9]
    go_wp2_with fail
    refine bodyPost_ret_by (v:=.tuple #[.agg #[.slice none 0 0],.int .i64 (-1),.slice none 0 0,.int .i64 3]) ?_ rfl ?_
    ·have z:(wr.setCell ⟨w.heap.size + 1,0,none⟩ (.slice none 0 0)).cell? ⟨w.heap.size + 1,0,none⟩=some (.slice none 0 0):=blk_cell (blk_set hO9 0 _) 0 _ rfl
     rw [results_cell_tmp3 rfl]
     simp [go_sem,z]
    ·exact ⟨built_no HX.out _,hbw.setCell (by simp) _⟩
   have hnv:=hv.1
   have hk0:0 < k:=by
    cases k with
    | zero=>simp at e0
    | succ k=>omega
   have HX:=Lib.hid (show K.build v l=⟨(K.levels l.length (v ++ l.map K.leafIt) (K.idx n l)).1,(K.levels l.length (v ++ l.map K.leafIt) (K.idx n l)).2,K.idx n l,0⟩ by rw [HB.out,if_neg (by rw [←HSK.out];omega),hnv])
   have q:decide (1125899906842624 < sk)=false:=by simpa using hce
   have hOK0:K.Ok (v ++ l.map K.leafIt) (K.idx n l) 1125899906842624 70368744177664:=by
    have h8:=K.leaves_sum v l
    have h7:=K.blinds_bound HRI.out
    rw [hnv]
    exact ⟨K.leaves_fine HRI.out,by rw [h8.1,←HSK.out];omega,by rw [h8.2];have:=hl.1;omega⟩
   have HOK:=Lib.hid hOK0
   have HT0:=Lib.hid (show (v ++ l.map K.leafIt).length + (K.idx n l).length=n + 2 * k by rw [List.length_append,List.length_map,K.idx_len,←hl.1,←hnv];omega)
   have HKL:=Lib.hid (show k=l.length from hl.1)
   clear hce HB HCE hOK0 hnv
   have hlv:(K.idx n l).length=k:=by rw [K.idx_len];exact hl.1.symm
   obtain ⟨Au,cu,hue,hru,h9⟩:=own_form hU.own
   rw [hlv] at hue hru
   have hIu:Ints wr Au k (K.idx n l):=⟨hlv.symm,hru⟩
   have HLV:=Lib.hid hlv
   rw [hue] at hU ⊢
   clear h9 hru hue
   go_wp2_with fail
   refine (clone_row Au k cu (K.idx n l) _ hIu (by omega)).mono ?_
   rintro e w5 ⟨⟨q0,rfl,hq0⟩,b5⟩
   have hq1:w5.ownsRow wr.heap.size 3 1 q0 (K.idx n l).length (intCells (K.idx n l)):=by rw [HLV.out];exact hq0
   have hQ5:=Apart.fresh hB hq1 hbr.size
   have hB5:=hB.below b5
   have hU5:=hU.below b5
   have hbr5:=hbr.trans (b5.mono hbr.size)
   clear hq0 hq1 hIu hB hU hbr b5 hlv hbw
   go_wp2_with fail
   go_loopw [12] (fun vq wo=>∃ (V:List It) (lv:List Int) (vo:Value) (f:Nat),Bld w2.heap.size bb wo vo V∧Apart w2.heap.size bb wo vo (.slice Au k cu) (K.idx n l)∧Apart w2.heap.size bb wo vo vq lv∧Hid (K.levels l.length (v ++ l.map K.leafIt) (K.idx n l)=K.levels f V lv)∧Hid (lv.length≤f)∧Hid (K.Ok V lv 1125899906842624 70368744177664)∧Hid (V.length + lv.length=n + 2 * k)∧0 < lv.length∧lv.length≤64∧Below w2.heap.size w2 wo) (fun vq _=>vlen vq)
   case atStart=>exact ⟨_,K.idx n l,vv,l.length,hB5,hU5,hQ5,Lib.hid rfl,Lib.hid (by rw [HLV.out,HKL.out];exact Nat.le_refl _),HOK,HT0,by rw [HLV.out];exact hk0,by rw [HLV.out];exact hm,hbr5⟩
   case round =>
    obtain ⟨V,lv,vo,f,hBo,hUo,hQo,hLe,hfu,hOk,hTot,hl0,hl64,hbo⟩:=hrel
    obtain ⟨Aq,cq,hqe⟩:=own_len hQo.own
    subst hqe
    by_cases hlt:1 < lv.length
    ·have hdt:decide ((1:Int) < (lv.length:Int))=true:=by simp;omega
     go_wp2_with fail
     go_loopw [13,14] (fun vx vi wi=>∃ (i t:Nat) (V':List It) (vi':Value) (nl:List Int),vi=.int .i64 i∧i≤lv.length∧Hid (i=2 * t)∧Hid (K.pairUp V lv=((K.pairUp V' (lv.drop (2 * t))).1,nl ++ (K.pairUp V' (lv.drop (2 * t))).2))∧Hid (K.Ok V' (lv.drop (2 * t)) 1125899906842624 70368744177664)∧Hid (V'.length=V.length + t)∧Hid (nl.length=t)∧St w2.heap.size bb wi vi' V' (.slice Au k cu) (K.idx n l) (.slice Aq lv.length cq) lv vx nl∧Below w2.heap.size w2 wi) (fun _ vi _=>lv.length - (intOf vi).toNat)
     case atStart=>exact ⟨0,0,V,vo,[],rfl,by omega,Lib.hid rfl,Lib.hid (by simp),Lib.hid (by simpa using hOk.out),Lib.hid rfl,Lib.hid rfl,St.start hBo hUo hQo,hbo⟩
     case round =>
      obtain ⟨i,t,V',vi',nl,rfl,hi,hit,hpr,hok,hvl,hnl,hS,hbi⟩:=hrel
      by_cases hlt2:i + 1 < lv.length
      ·obtain ⟨adq,a,rfl,ha,ca⟩:=Ints.at_ (own_ints_at hS.Q.own) (k:=i) (by omega)
       obtain ⟨adq',b,hadq,hb,cb⟩:=Ints.at_ (own_ints_at hS.Q.own) (k:=i + 1) hlt2
       injection hadq with hadq;subst hadq
       rw [add_pos] at cb
       have Hab:=Lib.hid (show K.Ok V' (a :: b :: lv.drop (2 * (t + 1))) 1125899906842624 70368744177664 by
        have:=hok.out
        rwa [K.drop_two (by rw [←hit.out];exact ha) (by rw [←hit.out];exact hb)] at this)
       have Hpn:=Lib.hid (K.pair_next hpr.out (by rw [←hit.out];exact ha) (by rw [←hit.out];exact hb))
       obtain ⟨hA,hB',hva,hba,hnx⟩:=Hab.out.two
       obtain ⟨ja,rfl⟩:∃ j:Nat,a=j:=⟨a.toNat,by omega⟩
       obtain ⟨jb,rfl⟩:∃ j:Nat,b=j:=⟨b.toNat,by omega⟩
       obtain ⟨Av',cv',hve,hIt⟩:=own_items hS.B.own rfl
       subst hve
       obtain ⟨adv,xa,rfl,hxa,a0,a1,a2,a3⟩:=Items.at_ hIt (k:=ja) (by omega)
       obtain ⟨adv',xb,hadv,hxb,b0,b1,b2,b3⟩:=Items.at_ hIt (k:=jb) (by omega)
       injection hadv with hadv;subst hadv
       have gq1:adq.block ≠ bb:=fun e=>hS.Q.ne (congrArg some e)
       have gq2:adv.block ≠ adq.block:=fun e=>hS.Q.dis adq.block rfl (congrArg some e)
       have gv1:adv.block ≠ bb:=fun e=>hS.B.ne (congrArg some e)
       have gq3:some adq.block ≠ u13.ownBlock:=fun e=>hS.nq adq.block rfl e.symm
       have vb:=blk_cell hS.B.blk 0 _ rfl
       have i0:(0:Int)≤(i:Int):=by omega
       have i1:(i:Int) < (lv.length:Int):=by omega
       have i2:(0:Int)≤(i:Int) + 1:=by omega
       have i3:(i:Int) + 1 < (lv.length:Int):=by omega
       have i4:i < lv.length:=by omega
       have j0:(0:Int)≤(ja:Int):=by omega
       have j1:(ja:Int) < (V'.length:Int):=by omega
       have j2:ja < V'.length:=by omega
       have j3:(0:Int)≤(jb:Int):=by omega
       have j4:(jb:Int) < (V'.length:Int):=by omega
       have j5:jb < V'.length:=by omega
       have wi:IntKind.i64.wrap ((i:Int) + 1)=(i:Int) + 1:=IntWalk.i64_in _ (by omega)
       have HVA:=Lib.hid (show K.get V' (ja:Int)=xa from K.get_at hxa)
       have HVB:=Lib.hid (show K.get V' (jb:Int)=xb from K.get_at hxb)
       rw [HVA.out,HVB.out] at hva hba
       have HA:=Lib.hid hA
       have HB':=Lib.hid hB'
       have wv:IntKind.i64.wrap (xa.val + xb.val)=xa.val + xb.val:=IntWalk.i64_in _ (by omega)
       have wb:IntKind.i64.wrap (xa.bl + xb.bl)=xa.bl + xb.bl:=IntWalk.i64_in _ (by omega)
       have HSI:=Lib.hid (show K.sumIt V' (ja:Int) (jb:Int)=⟨xa.val + xb.val,xa.bl + xb.bl,(ja:Int),(jb:Int)⟩ by unfold K.sumIt;rw [HVA.out,HVB.out])
       have hV9:V'.length≤10000:=by have:=hvl.out;have:=hTot.out;have:=hit.out;omega
       have hnl9:nl.length≤100:=by have:=hnl.out;have:=hit.out;omega
       have le1:nl.length + 1≤maxLen:=by simp only [maxLen];omega
       have le2:(nl.length + 1) * 8≤140737488355328:=by omega
       obtain ⟨ii,hi3,hz0,hz1,hz2⟩:=info_parts Tryz.info3
       have hbs:w2.heap.size≤wr.heap.size:=hbi.size
       have hblt:=lt_of_block hS.B.blk
       have hvlt:adv.block < wr.heap.size:=(hS.B.own.lt adv.block rfl).2
       have hult:∀ g,u13.ownBlock=some g→g < wr.heap.size:=fun g e=>(hS.N.own.lt g e).2
       have SS:∀ w',Below wr.heap.size wr w'→(Below wr.heap.size wr w'∧w'.cell? ⟨bb,0,none⟩=some (.slice (some adv) V'.length cv')∧w'.cell? (adq.add i)=some (.int .i64 ja)∧w'.cell? ⟨adq.block,adq.off + (i + 1),none⟩=some (.int .i64 jb) ∧
         w'.cell? (adv.add (ja * 4))=some (.int .i64 xa.val)∧w'.cell? ⟨(adv.add (ja * 4)).block,(adv.add (ja * 4)).off + 1,none⟩=some (.int .i64 xa.bl)∧w'.cell? ⟨(adv.add (ja * 4)).block,(adv.add (ja * 4)).off + 2,none⟩=some (.int .i64 xa.lt)∧w'.cell? ⟨(adv.add (ja * 4)).block,(adv.add (ja * 4)).off + 3,none⟩=some (.int .i64 xa.rt) ∧
         w'.cell? (adv.add (jb * 4))=some (.int .i64 xb.val)∧w'.cell? ⟨(adv.add (jb * 4)).block,(adv.add (jb * 4)).off + 1,none⟩=some (.int .i64 xb.bl)∧w'.cell? ⟨(adv.add (jb * 4)).block,(adv.add (jb * 4)).off + 2,none⟩=some (.int .i64 xb.lt)∧w'.cell? ⟨(adv.add (jb * 4)).block,(adv.add (jb * 4)).off + 3,none⟩=some (.int .i64 xb.rt)):=fun w' h =>
        ⟨h,(h.cell (cell_lt vb)).trans vb,(h.cell (cell_lt ca)).trans ca,(h.cell (cell_lt cb)).trans cb,(h.cell (cell_lt a0)).trans a0,(h.cell (cell_lt a1)).trans a1,(h.cell (cell_lt a2)).trans a2,(h.cell (cell_lt a3)).trans a3,(h.cell (cell_lt b0)).trans b0,(h.cell (cell_lt b1)).trans b1,(h.cell (cell_lt b2)).trans b2,(h.cell (cell_lt b3)).trans b3⟩
       clear hA hB' hxa hxb
       go_wp2_with fail
       clear vb a0 a1 a2 a3 b0 b1 b2 b3
       go_region_held3 (fun w'=>Below wr.heap.size wr w'∧w'.cell? ⟨bb,0,none⟩=some (.slice (some adv) V'.length cv')∧w'.cell? (adq.add i)=some (.int .i64 ja)∧w'.cell? ⟨adq.block,adq.off + (i + 1),none⟩=some (.int .i64 jb) ∧
         w'.cell? (adv.add (ja * 4))=some (.int .i64 xa.val)∧w'.cell? ⟨(adv.add (ja * 4)).block,(adv.add (ja * 4)).off + 1,none⟩=some (.int .i64 xa.bl)∧w'.cell? ⟨(adv.add (ja * 4)).block,(adv.add (ja * 4)).off + 2,none⟩=some (.int .i64 xa.lt)∧w'.cell? ⟨(adv.add (ja * 4)).block,(adv.add (ja * 4)).off + 3,none⟩=some (.int .i64 xa.rt) ∧
         w'.cell? (adv.add (jb * 4))=some (.int .i64 xb.val)∧w'.cell? ⟨(adv.add (jb * 4)).block,(adv.add (jb * 4)).off + 1,none⟩=some (.int .i64 xb.bl)∧w'.cell? ⟨(adv.add (jb * 4)).block,(adv.add (jb * 4)).off + 2,none⟩=some (.int .i64 xb.lt)∧w'.cell? ⟨(adv.add (jb * 4)).block,(adv.add (jb * 4)).off + 3,none⟩=some (.int .i64 xb.rt))
        (first | assumption | exact SS _ (Below.refl _ _).drew | exact SS _ ((Below.refl _ _).alloc (Nat.le_refl _) _).drew | exact SS _ (((Below.refl _ _).alloc (Nat.le_refl _) _).alloc (by simp) _).drew)
        (first | fail)
       ·obtain ⟨w6,hw6⟩:∃ w6,w6=((wr.alloc (.cells #[.int .i64 xa.val,.int .i64 xa.bl,.int .i64 xa.lt,.int .i64 xa.rt] 192)).alloc (.cells #[.int .i64 xb.val,.int .i64 xb.bl,.int .i64 xb.lt,.int .i64 xb.rt] 192)).drew:=⟨_,rfl⟩
        have hb6:Below wr.heap.size wr w6:=by rw [hw6];exact (((Below.refl _ _).alloc (Nat.le_refl _) _).alloc (by simp) _).drew
        have hf0:w6.heap[wr.heap.size]? = some (.cells #[.int .i64 xa.val,.int .i64 xa.bl,.int .i64 xa.lt,.int .i64 xa.rt] 192 (0,0)):=by rw [hw6];exact blk_alloc (heap_alloc_new wr _) _
        have hf1:w6.heap[wr.heap.size + 1]? = some (.cells #[.int .i64 xb.val,.int .i64 xb.bl,.int .i64 xb.lt,.int .i64 xb.rt] 192 (0,0)):=by rw [hw6];exact heap_alloc_at _ _ _ (by rw [World.size_alloc])
        have x0:w6.cell? ⟨wr.heap.size,0,none⟩=some (.int .i64 xa.val):=blk_cell hf0 0 _ rfl
        have x1:w6.cell? ⟨wr.heap.size,1,none⟩=some (.int .i64 xa.bl):=blk_cell hf0 1 _ rfl
        have y0:w6.cell? ⟨wr.heap.size + 1,0,none⟩=some (.int .i64 xb.val):=blk_cell hf1 0 _ rfl
        have y1:w6.cell? ⟨wr.heap.size + 1,1,none⟩=some (.int .i64 xb.bl):=blk_cell hf1 1 _ rfl
        have hs6:w6.heap.size=wr.heap.size + 1 + 1:=by rw [hw6];show ((wr.alloc _).alloc _).heap.size=_;rw [World.size_alloc,World.size_alloc]
        rw [←hw6]
        clear hw6 hf0 hf1
        have hS6:St w2.heap.size bb w6.drew (.slice (some adv) V'.length cv') V' (.slice Au k cu) (K.idx n l) (.slice (some adq) lv.length cq) lv u13 nl:=hS.below hb6.drew
        have hc6:=(hb6.cell (cell_lt ca)).trans ca
        have hd6:=(hb6.cell (cell_lt cb)).trans cb
        have n1:wr.heap.size ≠ bb:=by omega
        have n2:some wr.heap.size ≠ some adv.block:=fun e=>by injection e with e;omega
        have n3:some wr.heap.size ≠ u13.ownBlock:=fun e=>by have:=hult _ e.symm;omega
        have m1:(wr.heap.size + 1) ≠ bb:=by omega
        have m2:some (wr.heap.size + 1) ≠ some adv.block:=fun e=>by injection e with e;omega
        have m3:some (wr.heap.size + 1) ≠ u13.ownBlock:=fun e=>by have:=hult _ e.symm;omega
        have hbd6:w2.heap.size≤w6.drew.heap.size:=by show _≤w6.heap.size;omega
        have SS2:∀ w',Same3 w6.drew w' bb (some adv.block) u13.ownBlock→(Same3 w6.drew w' bb (some adv.block) u13.ownBlock∧w'.cell? ⟨wr.heap.size,0,none⟩=some (.int .i64 xa.val)∧w'.cell? ⟨wr.heap.size,1,none⟩=some (.int .i64 xa.bl)∧w'.cell? ⟨wr.heap.size + 1,0,none⟩=some (.int .i64 xb.val)∧w'.cell? ⟨wr.heap.size + 1,1,none⟩=some (.int .i64 xb.bl) ∧
          w'.cell? (adq.add i)=some (.int .i64 ja)∧w'.cell? ⟨adq.block,adq.off + (i + 1),none⟩=some (.int .i64 jb)):=fun w' h =>
         ⟨h,h.cell x0 n1 n2 n3,h.cell x1 n1 n2 n3,h.cell y0 m1 m2 m3,h.cell y1 m1 m2 m3,h.cell hc6 (by rw [add_block];exact gq1) (by rw [add_block];exact fun e=>gq2 (Option.some.inj e).symm) (by rw [add_block];exact gq3),h.cell hd6 gq1 (fun e=>gq2 (Option.some.inj e).symm) gq3⟩
        go_wp2_with fail
        clear x0 x1 y0 y1 hc6 hd6
        go_region_held3 (fun w'=>Same3 w6.drew w' bb (some adv.block) u13.ownBlock∧w'.cell? ⟨wr.heap.size,0,none⟩=some (.int .i64 xa.val)∧w'.cell? ⟨wr.heap.size,1,none⟩=some (.int .i64 xa.bl)∧w'.cell? ⟨wr.heap.size + 1,0,none⟩=some (.int .i64 xb.val)∧w'.cell? ⟨wr.heap.size + 1,1,none⟩=some (.int .i64 xb.bl) ∧
          w'.cell? (adq.add i)=some (.int .i64 ja)∧w'.cell? ⟨adq.block,adq.off + (i + 1),none⟩=some (.int .i64 jb))
         (first | assumption | exact SS2 _ (Same3.refl _ _ _ _) | exact SS2 _ hm7 | exact SS2 _ (hm7.below ((Below.refl _ _).alloc (Nat.le_refl _) _)) | exact SS2 _ hm8)
         (first | (go_at_call 160;refine (add_any bb w2.heap.size (.slice (some adv) V'.length cv') V'.length V' ⟨xa.val + xb.val,xa.bl + xb.bl,(ja:Int),(jb:Int)⟩ w6.drew hS6.B.blk hS6.B.own hS6.B.ne hbd6 hV9).mono ?_;rintro e w7 ⟨rfl,v7,hb7,ho7,hT7,hN7,hne7⟩;have hm7:=(Same3.refl w6.drew bb (some adv.block) u13.ownBlock).two hT7;have hS7:=hS6.added (V':=V' ++ [⟨xa.val + xb.val,xa.bl + xb.bl,(ja:Int),(jb:Int)⟩]) hb7 (by rw [List.length_append];exact ho7) hT7 hN7 hne7;have le3:∀ o:Obj,w2.heap.size≤(w7.alloc o).heap.size:=fun o=>by rw [World.size_alloc];have:=hm7.size;omega) | (refine step_append_lies _ rfl (.tmp 106) (.tmp 128) 48 rfl w2.heap.size 3 ii (.int .i64 0) 1 8 Tryz.underlying48 hi3 hz0 hz1 hz2 rfl Nat.one_pos u13 nl.length (intCells nl) rfl (hS7.N.own.alloc _) ⟨w7.heap.size,0,none⟩ 1 1 [.int .i64 (V'.length:Int)] rfl rfl (new_int w7 _) (one_int _) Nat.one_pos le1 le2 (le3 _) _ rfl ?_;intro g8 cap8 w8 hown8 hgrow8 hlies8 hlt8;have hm8:=(hm7.below ((Below.refl _ _).alloc (Nat.le_refl _) (.cells #[.int .i64 (V'.length:Int)] 3))).grow hgrow8) | fail)
        have hown9:w8.ownsRow w2.heap.size 3 1 (.slice (some ⟨g8,0,none⟩) (nl.length + 1) cap8) (nl ++ [(V'.length:Int)]).length (intCells (nl ++ [(V'.length:Int)])):=by rw [List.length_append,intCells_app];exact hown8
        have hS8:=hS7.app hgrow8 hown9 (by rcases hlies8 with h | h;exact .inl h.symm;exact .inr (by rw [h];rfl))
        have hbi8:Below w2.heap.size w2 w8:=hm8.low (B:=w2.heap.size) (hbi.trans (hb6.mono hbs)).drew hbd6 (by omega) (fun g e=>by injection e with e;have:=(hS.B.own.lt adv.block rfl).1;omega) (fun g e=>(hS.N.own.lt g e).1)
        clear hown9 hgrow8 hlies8 hm8 hm7 hT7 hN7 hb7 ho7 SS2 SS
        go_wp2_with fail
        go_roundw
        case rel=>exact ⟨i + 2,t + 1,V' ++ [⟨xa.val + xb.val,xa.bl + xb.bl,(ja:Int),(jb:Int)⟩],v7,nl ++ [(V'.length:Int)],by go_num,by omega,Lib.hid (by have:=hit.out;omega),Lib.hid (by have:=Hpn.out;rwa [HSI.out] at this),Lib.hid (hnx _),Lib.hid (by rw [List.length_append,hvl.out];simp;omega),Lib.hid (by rw [List.length_append,hnl.out];rfl),hS8,hbi8⟩
        case measure=>simp [intOf];omega
       ·obtain ⟨w6,hw6⟩:∃ w6,w6=((wr.alloc (.cells #[.int .i64 xb.val,.int .i64 xb.bl,.int .i64 xb.lt,.int .i64 xb.rt] 192)).alloc (.cells #[.int .i64 xa.val,.int .i64 xa.bl,.int .i64 xa.lt,.int .i64 xa.rt] 192)).drew:=⟨_,rfl⟩
        have hb6:Below wr.heap.size wr w6:=by rw [hw6];exact (((Below.refl _ _).alloc (Nat.le_refl _) _).alloc (by simp) _).drew
        have hf0:w6.heap[wr.heap.size]? = some (.cells #[.int .i64 xb.val,.int .i64 xb.bl,.int .i64 xb.lt,.int .i64 xb.rt] 192 (0,0)):=by rw [hw6];exact blk_alloc (heap_alloc_new wr _) _
        have hf1:w6.heap[wr.heap.size + 1]? = some (.cells #[.int .i64 xa.val,.int .i64 xa.bl,.int .i64 xa.lt,.int .i64 xa.rt] 192 (0,0)):=by rw [hw6];exact heap_alloc_at _ _ _ (by rw [World.size_alloc])
        have x0:w6.cell? ⟨wr.heap.size + 1,0,none⟩=some (.int .i64 xa.val):=blk_cell hf1 0 _ rfl
        have x1:w6.cell? ⟨wr.heap.size + 1,1,none⟩=some (.int .i64 xa.bl):=blk_cell hf1 1 _ rfl
        have y0:w6.cell? ⟨wr.heap.size,0,none⟩=some (.int .i64 xb.val):=blk_cell hf0 0 _ rfl
        have y1:w6.cell? ⟨wr.heap.size,1,none⟩=some (.int .i64 xb.bl):=blk_cell hf0 1 _ rfl
        have hs6:w6.heap.size=wr.heap.size + 1 + 1:=by rw [hw6];show ((wr.alloc _).alloc _).heap.size=_;rw [World.size_alloc,World.size_alloc]
        rw [←hw6]
        clear hw6 hf0 hf1
        have hS6:St w2.heap.size bb w6.drew (.slice (some adv) V'.length cv') V' (.slice Au k cu) (K.idx n l) (.slice (some adq) lv.length cq) lv u13 nl:=hS.below hb6.drew
        have hc6:=(hb6.cell (cell_lt ca)).trans ca
        have hd6:=(hb6.cell (cell_lt cb)).trans cb
        have n1:(wr.heap.size + 1) ≠ bb:=by omega
        have n2:some (wr.heap.size + 1) ≠ some adv.block:=fun e=>by injection e with e;omega
        have n3:some (wr.heap.size + 1) ≠ u13.ownBlock:=fun e=>by have:=hult _ e.symm;omega
        have m1:wr.heap.size ≠ bb:=by omega
        have m2:some wr.heap.size ≠ some adv.block:=fun e=>by injection e with e;omega
        have m3:some wr.heap.size ≠ u13.ownBlock:=fun e=>by have:=hult _ e.symm;omega
        have hbd6:w2.heap.size≤w6.drew.heap.size:=by show _≤w6.heap.size;omega
        have SS2:∀ w',Same3 w6.drew w' bb (some adv.block) u13.ownBlock→(Same3 w6.drew w' bb (some adv.block) u13.ownBlock∧w'.cell? ⟨wr.heap.size + 1,0,none⟩=some (.int .i64 xa.val)∧w'.cell? ⟨wr.heap.size + 1,1,none⟩=some (.int .i64 xa.bl)∧w'.cell? ⟨wr.heap.size,0,none⟩=some (.int .i64 xb.val)∧w'.cell? ⟨wr.heap.size,1,none⟩=some (.int .i64 xb.bl) ∧
          w'.cell? (adq.add i)=some (.int .i64 ja)∧w'.cell? ⟨adq.block,adq.off + (i + 1),none⟩=some (.int .i64 jb)):=fun w' h =>
         ⟨h,h.cell x0 n1 n2 n3,h.cell x1 n1 n2 n3,h.cell y0 m1 m2 m3,h.cell y1 m1 m2 m3,h.cell hc6 (by rw [add_block];exact gq1) (by rw [add_block];exact fun e=>gq2 (Option.some.inj e).symm) (by rw [add_block];exact gq3),h.cell hd6 gq1 (fun e=>gq2 (Option.some.inj e).symm) gq3⟩
        go_wp2_with fail
        clear x0 x1 y0 y1 hc6 hd6
        go_region_held3 (fun w'=>Same3 w6.drew w' bb (some adv.block) u13.ownBlock∧w'.cell? ⟨wr.heap.size + 1,0,none⟩=some (.int .i64 xa.val)∧w'.cell? ⟨wr.heap.size + 1,1,none⟩=some (.int .i64 xa.bl)∧w'.cell? ⟨wr.heap.size,0,none⟩=some (.int .i64 xb.val)∧w'.cell? ⟨wr.heap.size,1,none⟩=some (.int .i64 xb.bl) ∧
          w'.cell? (adq.add i)=some (.int .i64 ja)∧w'.cell? ⟨adq.block,adq.off + (i + 1),none⟩=some (.int .i64 jb))
         (first | assumption | exact SS2 _ (Same3.refl _ _ _ _) | exact SS2 _ hm7 | exact SS2 _ (hm7.below ((Below.refl _ _).alloc (Nat.le_refl _) _)) | exact SS2 _ hm8)
         (first | (go_at_call 160;refine (add_any bb w2.heap.size (.slice (some adv) V'.length cv') V'.length V' ⟨xa.val + xb.val,xa.bl + xb.bl,(ja:Int),(jb:Int)⟩ w6.drew hS6.B.blk hS6.B.own hS6.B.ne hbd6 hV9).mono ?_;rintro e w7 ⟨rfl,v7,hb7,ho7,hT7,hN7,hne7⟩;have hm7:=(Same3.refl w6.drew bb (some adv.block) u13.ownBlock).two hT7;have hS7:=hS6.added (V':=V' ++ [⟨xa.val + xb.val,xa.bl + xb.bl,(ja:Int),(jb:Int)⟩]) hb7 (by rw [List.length_append];exact ho7) hT7 hN7 hne7;have le3:∀ o:Obj,w2.heap.size≤(w7.alloc o).heap.size:=fun o=>by rw [World.size_alloc];have:=hm7.size;omega) | (refine step_append_lies _ rfl (.tmp 106) (.tmp 128) 48 rfl w2.heap.size 3 ii (.int .i64 0) 1 8 Tryz.underlying48 hi3 hz0 hz1 hz2 rfl Nat.one_pos u13 nl.length (intCells nl) rfl (hS7.N.own.alloc _) ⟨w7.heap.size,0,none⟩ 1 1 [.int .i64 (V'.length:Int)] rfl rfl (new_int w7 _) (one_int _) Nat.one_pos le1 le2 (le3 _) _ rfl ?_;intro g8 cap8 w8 hown8 hgrow8 hlies8 hlt8;have hm8:=(hm7.below ((Below.refl _ _).alloc (Nat.le_refl _) (.cells #[.int .i64 (V'.length:Int)] 3))).grow hgrow8) | fail)
        have hown9:w8.ownsRow w2.heap.size 3 1 (.slice (some ⟨g8,0,none⟩) (nl.length + 1) cap8) (nl ++ [(V'.length:Int)]).length (intCells (nl ++ [(V'.length:Int)])):=by rw [List.length_append,intCells_app];exact hown8
        have hS8:=hS7.app hgrow8 hown9 (by rcases hlies8 with h | h;exact .inl h.symm;exact .inr (by rw [h];rfl))
        have hbi8:Below w2.heap.size w2 w8:=hm8.low (B:=w2.heap.size) (hbi.trans (hb6.mono hbs)).drew hbd6 (by omega) (fun g e=>by injection e with e;have:=(hS.B.own.lt adv.block rfl).1;omega) (fun g e=>(hS.N.own.lt g e).1)
        clear hown9 hgrow8 hlies8 hm8 hm7 hT7 hN7 hb7 ho7 SS2 SS
        go_wp2_with fail
        go_roundw
        case rel=>exact ⟨i + 2,t + 1,V' ++ [⟨xa.val + xb.val,xa.bl + xb.bl,(ja:Int),(jb:Int)⟩],v7,nl ++ [(V'.length:Int)],by go_num,by omega,Lib.hid (by have:=hit.out;omega),Lib.hid (by have:=Hpn.out;rwa [HSI.out] at this),Lib.hid (hnx _),Lib.hid (by rw [List.length_append,hvl.out];simp;omega),Lib.hid (by rw [List.length_append,hnl.out];rfl),hS8,hbi8⟩
        case measure=>simp [intOf];omega
      ·have hl0':=hl0
       by_cases hev:i=lv.length
       ·have m1:((lv.length:Int) % 2 == 1)=false:=K.even_no (t:=t) (by rw [←hev];exact hit.out)
        obtain ⟨g1,⟨g,g2,g3⟩,g4,g5,g6⟩:=K.level_up (K.pair_even hpr.out (by have:=hit.out;omega)) hOk.out hlt hLe.out hfu.out hTot.out
        have HG:=And.intro (Lib.hid g2) (And.intro (Lib.hid g3) (And.intro (Lib.hid g1) (Lib.hid g4)))
        obtain ⟨An,cn,hne⟩:=own_len hS.N.own
        subst hne
        clear g1 g2 g3 g4 hev hl0'
        go_wp2_with fail
        go_roundw
        case rel=>exact ⟨V',nl,vi',g,hS.B,hS.U,hS.N,HG.1,HG.2.1,HG.2.2.1,HG.2.2.2,g6,by omega,hbi⟩
        case measure=>exact g5
       ·have HL:=Lib.hid (show lv.length=i + 1 by omega)
        have m1:((lv.length:Int) % 2 == 1)=true:=K.odd_yes (t:=t) (by rw [HL.out];have:=hit.out;omega)
        obtain ⟨adq,z,rfl,hz,cz⟩:=Ints.at_ (own_ints_at hS.Q.own) (k:=i) (by omega)
        obtain ⟨g1,⟨g,g2,g3⟩,g4,g5,g6⟩:=K.level_up (K.pair_odd (z:=z) hpr.out (by rw [HL.out];have:=hit.out;omega) (by rw [←hit.out];exact hz)) hOk.out hlt hLe.out hfu.out hTot.out
        have HG:=And.intro (Lib.hid g2) (And.intro (Lib.hid g3) (And.intro (Lib.hid g1) (Lib.hid g4)))
        have wq:IntKind.i64.wrap ((lv.length:Int) - 1)=(i:Int):=by rw [IntWalk.i64_in _ (by omega)];omega
        have i0:(0:Int)≤(i:Int):=by omega
        have i1:(i:Int) < (lv.length:Int):=by omega
        have i4:i < lv.length:=by omega
        have hnl9:nl.length≤100:=by have:=hnl.out;have:=hit.out;omega
        have hbs:w2.heap.size≤wr.heap.size:=hbi.size
        clear g1 g2 g3 g4 hev hl0' hz
        go_wp2_with (at_builtin;refine app_int rfl (.tmp 134) (.tmp 141) rfl w2.heap.size u13 nl.length nl rfl (hS.N.own.alloc _) wr.heap.size z rfl (heap_alloc_at _ _ _ rfl) (by omega) (by rw [World.size_alloc];omega) ?_;intro u' w6 hown6 hgrow6 hat6)
        have hown7:w6.ownsRow w2.heap.size 3 1 u' (nl ++ [z]).length (intCells (nl ++ [z])):=by rw [List.length_append];exact hown6
        have hS6:=hS.app hgrow6 hown7 hat6
        have hbi6:Below w2.heap.size w2 w6:=(hbi.alloc hbs _).grown hgrow6 (by rw [World.size_alloc];omega) (fun g h=>(hS.N.own.lt g h).1)
        obtain ⟨An,cn,hne⟩:=own_len hown7
        subst hne
        clear hown6 hown7 hgrow6 hat6
        go_wp2_with fail
        go_roundw
        case rel=>exact ⟨V',nl ++ [z],vi',g,hS6.B,hS6.U,hS6.N,HG.1,HG.2.1,HG.2.2.1,HG.2.2.2,g6,by omega,hbi6⟩
        case measure=>exact g5
    ·have HL:=Lib.hid (show lv.length=1 by omega)
     obtain ⟨Ao,co,hvo,_⟩:=own_items hBo.own rfl
     subst hvo
     obtain ⟨adq,z,rfl,hz,cz⟩:=Ints.at_ (own_ints_at hQo.own) (k:=0) (by omega)
     have HE:=Lib.hid (show K.levels l.length (v ++ l.map K.leafIt) (K.idx n l)=(V,z) by
      have HL':=HL.out
      rw [hLe.out]
      have:lv=[z]:=by
       rcases lv with _ | ⟨a,_ | ⟨b,r⟩⟩
       ·simp at HL'
       ·simp at hz;subst hz;rfl
       ·simp at HL'
      rw [this,K.levels_end])
     have hO9:=blk_below hbo hO2
     have hOw:=lt_of_block hO2
     have vb:wr.cell? ⟨bb,0,none⟩=some (.slice Ao V.length co):=blk_cell hBo.blk 0 _ rfl
     have cy:wr.cell? adq=some (.int .i64 z):=cz
     have hqb:=(hQo.own.lt adq.block rfl).1
     have o0:wr.cell? ⟨w.heap.size + 1,0,none⟩=some (.slice none 0 0):=blk_cell hO9 0 _ rfl
     have of:wr.frozen? ⟨w.heap.size + 1,0,none⟩=false:=by simp [World.frozen?,hO9]
     have o2:wr.drew.cell? ⟨w.heap.size + 1,0,none⟩=some (.slice none 0 0):=o0
     have of2:wr.drew.frozen? ⟨w.heap.size + 1,0,none⟩=false:=of
     have i0:(0:Int) < (lv.length:Int):=by omega
     have SS3:∀ w',Same3 wr w' (w.heap.size + 1) none none→(Same3 wr w' (w.heap.size + 1) none none∧w'.cell? ⟨bb,0,none⟩=some (.slice Ao V.length co)∧w'.cell? (adq.add 0)=some (.int .i64 z)∧w'.cell? adq=some (.int .i64 z)):=fun w' h =>
      ⟨h,h.cell vb (by show bb ≠ _;omega) (by simp) (by simp),h.cell cz (by rw [add_block];omega) (by simp) (by simp),h.cell cy (by omega) (by simp) (by simp)⟩
     clear hz hl64 hfu
     go_wp2_with fail
     clear vb cz cy
     go_region_held3 (fun w'=>Same3 wr w' (w.heap.size + 1) none none∧w'.cell? ⟨bb,0,none⟩=some (.slice Ao V.length co)∧w'.cell? (adq.add 0)=some (.int .i64 z)∧w'.cell? adq=some (.int .i64 z))
      (first | assumption | exact SS3 _ ((Same3.refl _ _ _ _).below (Below.refl _ _).drew) | exact SS3 _ (((Same3.refl _ _ _ _).below (Below.refl _ _).drew).set 0 _) | exact SS3 _ (((Same3.refl _ _ _ _).set 0 _).below (Below.refl _ _).drew))
      (first | fail)
     go_wp2_with fail
     refine bodyPost_ret_by (v:=.tuple #[.agg #[.slice Ao V.length co],.int .i64 z,.slice Au k cu,.int .i64 0]) ?_ rfl ?_
     ·have y9:(wr.setCell ⟨w.heap.size + 1,0,none⟩ (.slice Ao V.length co)).cell? ⟨w.heap.size + 1,0,none⟩=some (.slice Ao V.length co):=blk_cell (blk_set hO9 0 _) 0 _ rfl
      rw [results_cell_tmp3 rfl]
      simp [go_sem,y9]
     ·have hV9:=ownsRow_setCell_other (own_below hBo.own (Below.refl _ _).drew) (a:=⟨w.heap.size + 1,0,none⟩) (fun e=>by have h9:w2.heap.size≤w.heap.size + 1:=(hBo.own.lt _ e).1;omega) (.slice Ao V.length co)
      have hU9:=ownsRow_setCell_other (own_below hUo.own (Below.refl _ _).drew) (a:=⟨w.heap.size + 1,0,none⟩) (fun e=>by have h9:w2.heap.size≤w.heap.size + 1:=(hUo.own.lt _ e).1;omega) (.slice Ao V.length co)
      have hU8:=own_ints_at hU9
      rw [HLV.out] at hU8
      obtain ⟨A9,c9,e9,hI9⟩:=own_items hV9 rfl
      injection e9 with e1 e2 e3
      subst e1
      refine ⟨⟨Ao,V.length,co,Au,k,cu,by rw [HX.out,HE.out],by rw [HX.out,HE.out];exact hI9,by rw [HX.out];exact hU8⟩,(bel hb2 hbo).drew.setCell (by simp) _⟩
theorem build_any (A:Option Addr) (n c:Nat) (v:List It) (B:Option Addr) (m d:Nat) (l:List Ln) (w:World) (hv:Items w A n v) (hn:n≤100000) (hl:Lines w B m l) (hm:m≤100000) :
  Calls Tryz.prog 114 #[.agg #[.slice A n c],.slice B m d] w fun e w'=>BuiltAt (K.build v l) e w'∧Below w.heap.size w w':=by
 by_cases h:(!K.sound v || l.isEmpty || l.any fun x=>!K.right x)=true∨(64 < m∨1001 < n + 2 * m)
 ·exact build_no A n c v B m d l w hv hn hl hm h
 ·have h1:K.sound v=true:=by
   cases e:K.sound v
   ·exact absurd (.inl (by rw [e];rfl)) h
   ·rfl
  have h2:(l.any fun x=>!K.right x)=false:=by
   cases e:(l.any fun x=>!K.right x)
   ·rfl
   ·exact absurd (.inl (by rw [e];simp)) h
  have h3:m ≠ 0:=fun e=>h (.inl (by
   have:l=[]:=List.length_eq_zero_iff.1 (by rw [←hl.1];exact e)
   rw [this];simp))
  exact build_yes A n c v B m d l w hv hl h1 h2 h3 (by omega) (by omega)
end Vt
namespace K
def seeT (R:Option (List Q) × An × Int):Option (List Q) × Bool × List Int × List Int × Int:=(R.1,R.2.1.acc,R.2.1.tours.map (fun t=>t.2.end_),R.2.1.blk,R.2.2)
theorem top_1 (A:Option Addr) (c:Nat):seeT (ask33 2 exL32 [topS A c] [] topQ)=(some [topQ],true,[25],[],0):=by kernel_rfl
theorem top_2 (A:Option Addr) (c:Nat):seeT (ask33 2 exL32 [topS A c] [topQ] topQ)=(some [topQ],false,[],[0],0):=by kernel_rfl
end K
namespace Vt
def liveL:List Ln:=[⟨1,19,4⟩,⟨2,6,5⟩]
def liveI:List It:=[⟨19,4,-1,-1⟩,⟨6,5,-1,-1⟩,⟨25,9,0,1⟩]
theorem live_build:K.build [] liveL=⟨liveI,2,[0,1],0⟩:=by kernel_rfl
theorem live_path:K.path liveI 2 0=[2,0]:=by kernel_rfl
theorem live_check:K.check liveI [2,0] 25 9 ⟨1,19,4⟩=true:=by kernel_rfl
theorem live_build_any (B:Option Addr) (d:Nat) (w:World) (hl:Lines w B 2 liveL) :
  Calls Tryz.prog 114 #[.agg #[.slice none 0 0],.slice B 2 d] w fun e w'=>(∃ A' c' B' d',e=.returned (.tuple #[.agg #[.slice A' 3 c'],.int .i64 2,.slice B' 2 d',.int .i64 0])∧Items w' A' 3 liveI∧Ints w' B' 2 [0,1])∧Below w.heap.size w w':=by
 refine (build_any none 0 0 [] B 2 d liveL w (items_nil w) (by decide) hl (by decide)).mono ?_
 rw [live_build]
 rintro e w' ⟨⟨A',n',c',B',m',d',rfl,h1,h2⟩,hb⟩
 have e1:n'=3:=h1.1
 have e2:m'=2:=h2.1
 subst e1 e2
 exact ⟨⟨A',c',B',d',rfl,h1,h2⟩,hb⟩
theorem live_path_any (A:Option Addr) (c:Nat) (w:World) (hl:Items w A 3 liveI) :
  Calls Tryz.prog 116 #[.agg #[.slice A 3 c],.int .i64 2,.int .i64 0] w fun e w'=>(∃ B d,e=.returned (.slice B 2 d)∧Ints w' B 2 [2,0])∧Below w.heap.size w w':=by
 refine (path_any A 3 c liveI 2 0 w hl (by decide)).mono ?_
 rw [live_path]
 rintro e w' ⟨⟨B,n',d,rfl,h1⟩,hb⟩
 have e1:n'=2:=h1.1
 subst e1
 exact ⟨⟨B,d,rfl,h1⟩,hb⟩
theorem live_check_any (A:Option Addr) (c:Nat) (B:Option Addr) (d:Nat) (w:World) (hl:Items w A 3 liveI) (hp:Ints w B 2 [2,0]) :
  Calls Tryz.prog 115 #[.agg #[.slice A 3 c],.slice B 2 d,.int .i64 25,.int .i64 9,.agg #[.int .i64 1,.int .i64 19,.int .i64 4]] w fun e w'=>e=.returned (.bool true)∧Below w.heap.size w w':=by
 have h:=check_any A 3 c liveI B 2 d [2,0] 25 9 ⟨1,19,4⟩ w hl (by decide) hp (by decide)
 rw [live_check] at h
 exact h
end Vt
theorem bel_alc (w:World) (o:Obj):Below w.heap.size w (w.alloc o):=(Below.refl _ _).alloc (Nat.le_refl _) o
structure TopB (w:World) (x:Cs):Prop where
 nd:x.nd=2
 n:x.n=2
 sn:x.sn=1
 m:x.m=1
 l:x.l=K.exL32
 at_:CsAt w x
 ss:x.ss.map S.bare=[K.topS none 0].map S.bare
 r:x.r.map Q.bare=[K.topQ].map Q.bare
 s9:∀ s ∈ x.ss,s.n≤1000000
theorem TopB.below {w w':World} {x:Cs} (h:TopB w x) (hb:Below w.heap.size w w'):TopB w' x:=⟨h.nd,h.n,h.sn,h.m,h.l,h.at_.below hb,h.ss,h.r,h.s9⟩
theorem TopB.ok {w:World} {x:Cs} (h:TopB w x):Ok33 w x K.topQ :=
 ⟨h.at_,⟨rfl,rfl,fun h0=>absurd h0 (Nat.lt_irrefl 0)⟩,by have:=h.m;omega,same_n h.at_.reqs h.r (fun q hq=>by rw [List.mem_singleton.1 hq];exact Nat.zero_le _),Nat.zero_le _⟩
theorem ask_top1 (w:World) (A:Option Addr) (c:Nat) (A2:Option Addr) (c2:Nat) (SA:Option Addr) (sc:Nat) (hR:Roads w A 2 K.exL32) (hS:Shifts w SA 1 [K.topS A2 c2]) :
  Calls Tryz.prog 33 #[.agg #[.int .i64 2,.slice A 2 c,.slice SA 1 sc,.slice none 0 0],.agg #[.int .i64 1,.int .i64 0,.int .i64 600,.int .i64 5,.int .i64 0,.int .i64 9,.slice none 0 0]] w fun e w' =>
   (∃ (x':Cs) (a:AV) (ad:Addr),e=.returned (.tuple #[.agg #[.int .i64 2,.slice x'.A 2 x'.c,.slice x'.SA 1 x'.sc,.slice x'.B 1 x'.d],.agg #[.bool true,.slice (some ad) 1 a.pc,.slice a.VA 0 a.vc,.slice a.RA a.rn a.rc],.int .i64 0])∧TopB w' x'∧w'.cell? ⟨(ad.add 0).block,(ad.add 0).off + 3,none⟩=some (.int .i64 25))∧Below w.heap.size w w':=by
 have hok:Ok33 w ⟨2,A,2,c,K.exL32,SA,1,sc,[K.topS A2 c2],none,0,0,[]⟩ K.topQ:=⟨⟨hR,hS,⟨rfl,⟨rfl,fun h=>absurd h (Nat.lt_irrefl 0)⟩,fun y h=>(by cases h)⟩,(show (2:Nat)≤1000000000 by decide),fun s hs=>by rw [List.mem_singleton.1 hs];exact (show (1:Nat)≤1000000000 by decide),(show (1:Nat)≤1000000000 by decide),(show (0:Nat)≤1000000000 by decide),fun y h=>(by cases h)⟩,⟨rfl,rfl,fun h0=>absurd h0 (Nat.lt_irrefl 0)⟩,(show (0:Nat)≤100 by decide),fun y h=>(by cases h),(show (0:Nat)≤1000000 by decide)⟩
 have hs9:∀ s ∈ [K.topS A2 c2],s.n≤1000000:=fun s hs=>by rw [List.mem_singleton.1 hs];exact (show (1:Nat)≤1000000 by decide)
 have hc:=ask_any ⟨2,A,2,c,K.exL32,SA,1,sc,[K.topS A2 c2],none,0,0,[]⟩ K.topQ w hok (show (2:Nat)≤1000000 by decide) (show (1:Nat)≤1000000 by decide) hs9
 refine Calls.mono hc ?_
 rintro e w' ⟨⟨x',a,rfl,hA,hO,hN,hB,hNa,hNx⟩,hb⟩
 obtain ⟨R,hR0⟩:∃ R,R=K.ask33 2 K.exL32 [K.topS A2 c2] [] K.topQ:=⟨_,rfl⟩
 have hs:=K.top_1 A2 c2
 rw [←hR0] at hs
 dsimp only at hN hB ⊢
 rw [←hR0] at hN hB ⊢
 clear hR0 hc
 obtain ⟨r1,an,er⟩:=R
 simp only [K.seeT,Prod.mk.injEq] at hs
 obtain ⟨rfl,s2,s3,s4,rfl⟩:=hs
 obtain ⟨b1,b2,b3,b4,b5,b6,b7⟩:=hB
 have g1:a.acc=true:=(congrArg K.An.acc hN).trans s2
 have g2:a.v=[]:=(congrArg K.An.blk hN).trans s4
 have g3:(a.ts.map TV.pr).map (fun t=>t.2.end_)=[25]:=by rw [show a.ts.map TV.pr=an.tours from congrArg K.An.tours hN];exact s3
 have g4:a.pn=1:=by
  have h1:=congrArg List.length g3
  rw [List.length_map,List.length_map] at h1
  rw [hA.t.1.1,h1]
  rfl
 have g5:a.vn=0:=by rw [hA.v.1,g2];rfl
 have hm:x'.m=1:=by
  have h1:=congrArg List.length b7
  rw [List.length_map,List.length_map] at h1
  rw [b5.reqs.1,h1]
  rfl
 obtain ⟨ad,y,e1,e2,-,-,-,-,e3⟩:=hA.t.at_ (k:=0) (by omega)
 have e4:y.t.end_=25:=by
  have h1:=congrArg (fun l=>l[0]?) g3
  simp only [List.getElem?_map,e2,Option.map_some] at h1
  simpa [TV.pr] using h1
 rw [e4] at e3
 refine ⟨⟨x',a,ad,by rw [b1,b3,b4,hm,g1,g4,g5,e1],⟨b1,b3,b4,hm,b2,b5,b6,b7,?_⟩,e3⟩,hb⟩
 exact same_sn b5.shifts hS b6 hs9
theorem ask_top2 (w:World) (x:Cs) (hx:TopB w x) :
  Calls Tryz.prog 33 #[.agg #[.int .i64 2,.slice x.A 2 x.c,.slice x.SA 1 x.sc,.slice x.B 1 x.d],.agg #[.int .i64 1,.int .i64 0,.int .i64 600,.int .i64 5,.int .i64 0,.int .i64 9,.slice none 0 0]] w fun e w' =>
   (∃ (x':Cs) (a:AV),e=.returned (.tuple #[.agg #[.int .i64 x'.nd,.slice x'.A x'.n x'.c,.slice x'.SA x'.sn x'.sc,.slice x'.B x'.m x'.d],.agg #[.bool false,.slice a.PA a.pn a.pc,.slice a.VA 1 a.vc,.slice a.RA a.rn a.rc],.int .i64 0])∧Ints w' a.VA 1 [0])∧Below w.heap.size w w':=by
 have hc:=ask_any x K.topQ w hx.ok (by rw [hx.n];decide) (by rw [hx.sn];decide) hx.s9
 obtain ⟨h1,-⟩:=K.ask_same (nd:=2) (l:=K.exL32) hx.r hx.ss (x:=K.topQ) rfl
 rw [hx.nd,hx.n,hx.sn,hx.m,hx.l] at hc
 refine Calls.mono hc ?_
 rintro e w' ⟨⟨x',a,rfl,hA,hO,hN,hB,hNa,hNx⟩,hb⟩
 obtain ⟨R,hR⟩:∃ R,R=K.ask33 2 K.exL32 x.ss x.r K.topQ:=⟨_,rfl⟩
 obtain ⟨R0,hR0⟩:∃ R0,R0=K.ask33 2 K.exL32 [K.topS none 0] [K.topQ] K.topQ:=⟨_,rfl⟩
 have hs:=K.top_2 none 0
 rw [←hR0] at hs h1
 rw [←hR] at h1 hN ⊢
 clear hR hR0 hc hB
 obtain ⟨r1,an,er⟩:=R
 obtain ⟨r0,an0,er0⟩:=R0
 simp only [Prod.mk.injEq] at h1
 obtain ⟨rfl,rfl⟩:=h1
 simp only [K.seeT,Prod.mk.injEq] at hs
 obtain ⟨rfl,s2,s3,s4,rfl⟩:=hs
 have g1:a.acc=false:=(congrArg K.An.acc hN).trans s2
 have g2:a.v=[0]:=(congrArg K.An.blk hN).trans s4
 have g5:a.vn=1:=by rw [hA.v.1,g2];rfl
 have hI:=hA.v
 rw [g2,g5] at hI
 exact ⟨⟨x',a,by rw [g1,g5],hI⟩,hb⟩
set_option maxRecDepth 100000 in
set_option maxHeartbeats 16000000 in
theorem wholeLive_any (w:World):Calls Tryz.prog 56 #[] w fun e w'=>e=.returned (.bool true)∧Below w.heap.size w w':=by
 go_enter Tryz.func56,Tryz.ntmps56
 go_wp2_with fail
 refine (net113_any _).mono ?_
 rintro e w1 ⟨⟨A,c,A2,c2,SA,sc,rfl,hR,hS⟩,b1⟩
 obtain ⟨W1,hW1⟩:∃ W1:World,W1=(w1.alloc (.cells #[.int .i64 2,.slice A 2 c] 24)).alloc (.cells #[.int .i64 1,.int .i64 0,.int .i64 600,.int .i64 5,.int .i64 0,.int .i64 9,.slice none 0 0] 47):=⟨_,rfl⟩
 obtain ⟨g1,hg1⟩:∃ g,g=w1.heap.size:=⟨_,rfl⟩
 obtain ⟨g2,hg2⟩:∃ g,g=w1.heap.size + 1:=⟨_,rfl⟩
 have b11:Below w1.heap.size w1 W1:=by rw [hW1];exact bel (bel_alc _ _) (bel_alc _ _)
 have hB1:W1.heap[g1]? = some (.cells #[.int .i64 2,.slice A 2 c] 24 (0,0)):=by rw [hW1,hg1];exact blk_alloc (heap_alloc_new _ _) _
 have hB2:W1.heap[g2]? = some (.cells #[.int .i64 1,.int .i64 0,.int .i64 600,.int .i64 5,.int .i64 0,.int .i64 9,.slice none 0 0] 47 (0,0)):=by rw [hW1,hg2];exact heap_alloc_at _ _ _ (World.size_alloc _ _).symm
 have hb1:=bel b1 b11
 have hR1:=Lst.below hR b11
 have hS1:=hS.below b11
 go_upto_region 3 with fail
 rw [←hW1,←hg2,←hg1]
 clear hW1 hg1 hg2
 have p0:=blk_cell hB1 0 _ rfl
 have p1:=blk_cell hB1 1 _ rfl
 have o0:=blk_cell hB2 0 _ rfl
 have o1:=blk_cell hB2 1 _ rfl
 have o2:=blk_cell hB2 2 _ rfl
 have o3:=blk_cell hB2 3 _ rfl
 have o4:=blk_cell hB2 4 _ rfl
 have o5:=blk_cell hB2 5 _ rfl
 have o6:=blk_cell hB2 6 _ rfl
 go_wp2_with fail
 refine (ask_top1 _ A c A2 c2 SA sc hR1 hS1).mono ?_
 rintro e w2 ⟨⟨x,a,ad,rfl,hX,hcell⟩,b2⟩
 obtain ⟨W2,hW2⟩:∃ W2:World,W2=(w2.alloc (.cells #[.int .i64 2,.slice x.A 2 x.c,.slice x.SA 1 x.sc,.slice x.B 1 x.d] 44)).alloc (.cells #[.bool true,.slice (some ad) 1 a.pc,.slice a.VA 0 a.vc,.slice a.RA a.rn a.rc] 50):=⟨_,rfl⟩
 obtain ⟨g4,hg4⟩:∃ g,g=w2.heap.size:=⟨_,rfl⟩
 obtain ⟨g5,hg5⟩:∃ g,g=w2.heap.size + 1:=⟨_,rfl⟩
 have b22:Below w2.heap.size w2 W2:=by rw [hW2];exact bel (bel_alc _ _) (bel_alc _ _)
 have hB4:W2.heap[g4]? = some (.cells #[.int .i64 2,.slice x.A 2 x.c,.slice x.SA 1 x.sc,.slice x.B 1 x.d] 44 (0,0)):=by rw [hW2,hg4];exact blk_alloc (heap_alloc_new _ _) _
 have hB5:W2.heap[g5]? = some (.cells #[.bool true,.slice (some ad) 1 a.pc,.slice a.VA 0 a.vc,.slice a.RA a.rn a.rc] 50 (0,0)):=by rw [hW2,hg5];exact heap_alloc_at _ _ _ (World.size_alloc _ _).symm
 have b12:=bel b2 b22
 have hb2:=bel hb1 b12
 have hB22:=blk_below b12 hB2
 have hX2:=hX.below b22
 have hcell2:=(b22.cell (cell_lt hcell)).trans hcell
 clear p0 p1 o0 o1 o2 o3 o4 o5 o6
 go_upto_region 4 with fail
 rw [←hW2,←hg5,←hg4]
 clear hW2 hg4 hg5 hX hcell hR1 hS1 hB1 hB2
 have p0:=blk_cell hB4 0 _ rfl
 have p1:=blk_cell hB4 1 _ rfl
 have p2:=blk_cell hB4 2 _ rfl
 have p3:=blk_cell hB4 3 _ rfl
 have o0:=blk_cell hB22 0 _ rfl
 have o1:=blk_cell hB22 1 _ rfl
 have o2:=blk_cell hB22 2 _ rfl
 have o3:=blk_cell hB22 3 _ rfl
 have o4:=blk_cell hB22 4 _ rfl
 have o5:=blk_cell hB22 5 _ rfl
 have o6:=blk_cell hB22 6 _ rfl
 go_wp2_with fail
 refine (ask_top2 _ x hX2).mono ?_
 rintro e w3 ⟨⟨x2,a2,rfl,hV⟩,b3⟩
 obtain ⟨W3,hW3⟩:∃ W3:World,W3=(w3.alloc (.cells #[.int .i64 x2.nd,.slice x2.A x2.n x2.c,.slice x2.SA x2.sn x2.sc,.slice x2.B x2.m x2.d] 44)).alloc (.cells #[.bool false,.slice a2.PA a2.pn a2.pc,.slice a2.VA 1 a2.vc,.slice a2.RA a2.rn a2.rc] 50):=⟨_,rfl⟩
 obtain ⟨g7,hg7⟩:∃ g,g=w3.heap.size:=⟨_,rfl⟩
 obtain ⟨g8,hg8⟩:∃ g,g=w3.heap.size + 1:=⟨_,rfl⟩
 have b33:Below w3.heap.size w3 W3:=by rw [hW3];exact bel (bel_alc _ _) (bel_alc _ _)
 have hB8:W3.heap[g8]? = some (.cells #[.bool false,.slice a2.PA a2.pn a2.pc,.slice a2.VA 1 a2.vc,.slice a2.RA a2.rn a2.rc] 50 (0,0)):=by rw [hW3,hg8];exact heap_alloc_at _ _ _ (World.size_alloc _ _).symm
 have b23:=bel b3 b33
 have hb3:=bel hb2 b23
 have hV3:=hV.below b33
 clear p0 p1 p2 p3 o0 o1 o2 o3 o4 o5 o6
 go_upto_region 5 with fail
 rw [←hW3,←hg8,←hg7]
 clear hW3 hg7 hg8 hX2 hV hB22
 obtain ⟨W4,hW4⟩:∃ W4:World,W4=W3.alloc (.cells #[.int .i64 1,.int .i64 19,.int .i64 4,.int .i64 2,.int .i64 6,.int .i64 5] 146):=⟨_,rfl⟩
 have b4:Below W3.heap.size W3 W4:=by rw [hW4];exact bel_alc _ _
 have hL:Vt.Lines W4 (some ⟨W3.heap.size,0,none⟩) 2 Vt.liveL:=by rw [hW4];exact ⟨rfl,Rd.of_block (cs:=(Vt.liveL.flatMap Vt.Ln.cells).toArray) (heap_alloc_new _ _) 3 2 rfl⟩
 go_wp2_with fail
 rw [←hW4]
 refine (Vt.live_build_any _ _ W4 hL).mono ?_
 rintro e w5 ⟨⟨VA,vc,LA,lc,rfl,hI,hJ⟩,b5⟩
 obtain ⟨W5,hW5⟩:∃ W5:World,W5=w5.alloc (.cells #[.slice VA 3 vc] 142):=⟨_,rfl⟩
 obtain ⟨g10,hg10⟩:∃ g,g=w5.heap.size:=⟨_,rfl⟩
 have b55:Below w5.heap.size w5 W5:=by rw [hW5];exact bel_alc _ _
 have hB10:W5.heap[g10]? = some (.cells #[.slice VA 3 vc] 142 (0,0)):=by rw [hW5,hg10];exact heap_alloc_new _ _
 have b35:=bel (bel b4 b5) b55
 have b25:=bel b23 b35
 have hb5:=bel hb2 b25
 have hI5:=Lst.below hI b55
 have hJ5:=hJ.below b55
 have hV5:=hV3.below b35
 have hc5:=(b25.cell (cell_lt hcell2)).trans hcell2
 have hB45:=blk_below b25 hB4
 have hB55:=blk_below b25 hB5
 have hB85:=blk_below b35 hB8
 clear hW4 hL hcell2 hV3 hB4 hB5 hB8 hI hJ
 go_upto_region 6 with fail
 rw [←hW5,←hg10]
 clear hW5 hg10
 have p0:=blk_cell hB45 0 _ rfl
 have p1:=blk_cell hB45 1 _ rfl
 have p2:=blk_cell hB45 2 _ rfl
 have p3:=blk_cell hB45 3 _ rfl
 have q0:=blk_cell hB55 0 _ rfl
 have q1:=blk_cell hB55 1 _ rfl
 have q2:=blk_cell hB55 2 _ rfl
 have q3:=blk_cell hB55 3 _ rfl
 have y0:=blk_cell hB85 0 _ rfl
 have y1:=blk_cell hB85 1 _ rfl
 have y2:=blk_cell hB85 2 _ rfl
 have y3:=blk_cell hB85 3 _ rfl
 have hc6:W5.cell? ⟨ad.block,ad.off + 3,none⟩=some (.int .i64 25):=hc5
 clear hc5
 obtain ⟨W6,hW6⟩:∃ W6:World,W6=W5.alloc (.cells #[.int .i64 0] 3):=⟨_,rfl⟩
 have b6:Below W5.heap.size W5 W6:=by rw [hW6];exact bel_alc _ _
 have hO:Ints W6 (some ⟨W5.heap.size,0,none⟩) 1 [0]:=by rw [hW6];exact ⟨rfl,Rd.of_block (cs:=(intCells [0]).toArray) (heap_alloc_new _ _) 1 1 rfl⟩
 have CS:=sameInts28_any a2.VA (some ⟨W5.heap.size,0,none⟩) 1 1 a2.vc 1 [0] [0] W6 (hV5.below b6) hO (by decide) (by decide)
 rw [show decide (([0]:List Int)=[0])=true by decide] at CS
 go_wp2_with fail
 rw [←hW6]
 refine CS.mono ?_
 rintro e w7 ⟨rfl,b7⟩
 have b57:=bel b6 b7
 have hb7:=bel hb5 b57
 have hBv:=blk_below b57 hB10
 have HV:=Lib.hid (show ∀ w',Below w7.heap.size w7 w'→Vt.Items w' VA 3 Vt.liveI from fun w' h=>Lst.below hI5 (bel b57 h))
 obtain ⟨la,l0,hla,hl0,cl0⟩:=(hJ5.below b57).at_ (k:=0) (by decide)
 have hl0':l0=0:=by
  have h9:(([0,1]:List Int))[0]? = some 0:=rfl
  rw [h9] at hl0
  injection hl0 with h
  exact h.symm
 subst hl0' hla
 have cl0':w7.cell? la=some (.int .i64 0):=cl0
 clear hc6 hW6 hO CS hl0 cl0 hI5 hV5
 clear p0
 clear p1
 clear p2
 clear p3
 clear q0
 clear q1
 clear q2
 clear q3
 clear y0
 clear y1
 clear y2
 clear y3
 have hbd:Below w7.heap.size w7 w7.drew:=(Below.refl _ _).drew
 have HMK:=Lib.hid (show ∀ w',Below w7.heap.size w7 w'→(fun w':World=>w'.cell? ⟨g10,0,none⟩=some (.slice VA 3 vc)∧w'.cell? la=some (.int .i64 0)) w' from fun w' h=>⟨blk_cell (blk_below h hBv) 0 _ rfl,(h.cell (cell_lt cl0')).trans cl0'⟩)
 have S0:=HMK.out _ (Below.refl _ _)
 have S0d:=HMK.out _ hbd
 go_upto_region 9 with fail
 go_region_held3 (fun w':World=>w'.cell? ⟨g10,0,none⟩=some (.slice VA 3 vc)∧w'.cell? la=some (.int .i64 0))
  (first | with_reducible exact S2 | with_reducible exact S1 | with_reducible exact S0d | with_reducible exact S0 | fail)
  (first
   | (go_at_call 116;refine (Vt.live_path_any VA vc _ (HV.out _ hbd)).mono ?_;rintro e w8 ⟨⟨PB,pd,rfl,hP8⟩,b8⟩;have b8r:=bel hbd b8;have S1:=HMK.out _ b8r)
   | (go_at_call 115;refine (Vt.live_check_any VA vc PB pd _ (HV.out _ b8r) hP8).mono ?_;rintro e w9 ⟨rfl,b9⟩;have b9r:=bel b8r b9;have S2:=HMK.out _ b9r)
   | fail)
 clear S0 S0d S1 S2
 go_wp2_with fail
 go_ret
 exact ⟨rfl,bel hb7 b9r⟩
end Go.Proofs.YtippdjmpkafifaaGreat
