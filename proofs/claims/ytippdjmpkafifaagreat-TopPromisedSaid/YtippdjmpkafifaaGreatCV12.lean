import Derived.Test.YtippdjmpkafifaaGreatCV11
import Derived.Test.YtippdjmpkafifaaGreatCV7
namespace Go.Proofs.YtippdjmpkafifaaGreat
open Go.RowKit
set_option maxHeartbeats 4000000 in
theorem index101_any (A:Option Addr) (n c:Nat) (l:List Int) (x:Int) (w:World) (hl:Ints w A n l) (hn:n≤1000000000) :
  Calls Tryz.prog 153 #[.slice A n c,.int .i64 x] w fun e w'=>(∃ i:Int,e=.returned (.int .i64 i)∧(decide (0≤i))=l.any (· == x))∧Below w.heap.size w w':=by
 go_enter Tryz.func153,Tryz.ntmps153
 go_wp2_with fail
 go_loopw [8] (fun vi wr=>∃ k:Nat,vi=.int .i64 k∧k≤n∧Hid (l.any (· == x)=(l.drop k).any (· == x))∧Below w.heap.size w wr) (fun vi _=>n - (intOf vi).toNat)
 case atStart=>exact ⟨0,rfl,by omega,by show _=_;rw [List.drop_zero],Below.refl _ _⟩
 case round =>
  obtain ⟨k,rfl,hk,hr,hW⟩:=hrel
  by_cases hlt:k < n
  ·obtain ⟨ad,y,rfl,hg,c0⟩:=(hl.below hW).at_ hlt
   have HS:=Lib.hid (drop_any (p:=(· == x)) hg)
   have k0:(0:Int)≤(k:Int):=by omega
   have k1:(k:Int) < (n:Int):=by omega
   clear hg
   by_cases hxy:x=y
   ·have hd1:decide (x=y)=true:=decide_eq_true hxy
    have hd2:(x == y)=true:=beq_iff_eq.2 hxy
    have HR9:=Lib.hid (show (y == x)=true from beq_iff_eq.2 hxy.symm)
    clear hxy
    go_wp2_with fail
    go_ret
    exact ⟨⟨k,rfl,by rw [hr.out,HS.out,HR9.out];simp⟩,hW⟩
   ·have hd1:decide (x=y)=false:=decide_eq_false hxy
    have hd2:(x == y)=false:=beq_eq_false_iff_ne.2 hxy
    have HR9:=Lib.hid (show (y == x)=false from beq_eq_false_iff_ne.2 fun e=>hxy e.symm)
    clear hxy
    go_wp2_with fail
    go_roundw
    case rel=>exact ⟨k + 1,by go_num,by omega,by show _=_;rw [hr.out,HS.out,HR9.out];rfl,hW⟩
    case measure=>simp [intOf];omega
  ·have hd:l.drop k=[]:=List.drop_eq_nil_of_le (by rw [←hl.1];omega)
   have HD:=Lib.hid hd
   clear hd
   go_wp2_with fail
   go_ret
   exact ⟨⟨-1,rfl,by rw [hr.out,HD.out];rfl⟩,hW⟩
set_option maxHeartbeats 4000000 in
theorem contains64_any (A:Option Addr) (n c:Nat) (l:List Int) (x:Int) (w:World) (hl:Ints w A n l) (hn:n≤1000000000) :
  Calls Tryz.prog 108 #[.slice A n c,.int .i64 x] w fun e w'=>e=.returned (.bool (l.any (· == x)))∧Below w.heap.size w w':=by
 have CI:=index101_any A n c l x w hl hn
 go_enter Tryz.func108,Tryz.ntmps108
 go_wp2_with fail
 refine CI.mono ?_
 rintro e w1 ⟨⟨i,rfl,hi⟩,hb1⟩
 go_wp2_with fail
 go_ret
 exact ⟨by rw [←hi];rfl,hb1⟩
set_option maxHeartbeats 4000000 in
theorem indexI63 (G:Nat) (p:Int→Bool) (A:Option Addr) (n c:Nat) (l:List Int) (w:World) (hl:Ints w A n l) (hn:n≤1000000000) (CF:∀ x ∈ l,∀ w',Below w.heap.size w w'→Calls Tryz.prog 127 #[.int .i64 x,.pointer (some ⟨G,0,none⟩)] w' fun e w''=>e=.returned (.bool (p x))∧Below w'.heap.size w' w'') :
  Calls Tryz.prog 136 #[.slice A n c,.func (.func 127) #[] #[.pointer (some ⟨G,0,none⟩)]] w fun e w'=>(∃ i:Int,e=.returned (.int .i64 i)∧(decide (0≤i))=l.any p)∧Below w.heap.size w w':=by
 go_enter Tryz.func136,Tryz.ntmps136
 go_wp2_with fail
 go_loopw [8] (fun vi wr=>∃ k:Nat,vi=.int .i64 k∧k≤n∧Hid (l.any p=(l.drop k).any p)∧Below w.heap.size w wr) (fun vi _=>n - (intOf vi).toNat)
 case atStart=>exact ⟨0,rfl,by omega,by show _=_;rw [List.drop_zero],Below.refl _ _⟩
 case round =>
  obtain ⟨k,rfl,hk,hr,hW⟩:=hrel
  by_cases hlt:k < n
  ·obtain ⟨ad,x,rfl,hg,c0⟩:=(hl.below hW).at_ hlt
   have HS:=Lib.hid (drop_any (p:=p) hg)
   have CB:=CF x (List.mem_of_getElem? hg) wr hW
   obtain ⟨r9,hr9⟩:∃ r9,r9=p x:=⟨_,rfl⟩
   try rw [show p x=r9 from hr9.symm] at CB
   have HR9:=Lib.hid hr9
   have k0:(0:Int)≤(k:Int):=by omega
   have k1:(k:Int) < (n:Int):=by omega
   clear hg hr9
   go_wp2_with fail
   refine CB.mono ?_
   rintro e w1 ⟨rfl,hW1⟩
   have hW2:=bel hW hW1
   clear CB
   cases r9
   ·go_wp2_with fail
    go_roundw
    case rel=>exact ⟨k + 1,by go_num,by omega,by show _=_;rw [hr.out,HS.out,←HR9.out];rfl,hW2⟩
    case measure=>simp [intOf];omega
   ·go_wp2_with fail
    go_ret
    exact ⟨⟨k,rfl,by rw [hr.out,HS.out,←HR9.out];simp⟩,hW2⟩
  ·have hd:l.drop k=[]:=List.drop_eq_nil_of_le (by rw [←hl.1];omega)
   have HD:=Lib.hid hd
   clear hd
   go_wp2_with fail
   go_ret
   exact ⟨⟨-1,rfl,by rw [hr.out,HD.out];rfl⟩,hW⟩
set_option maxHeartbeats 4000000 in
theorem containsI63 (G:Nat) (p:Int→Bool) (A:Option Addr) (n c:Nat) (l:List Int) (w:World) (hl:Ints w A n l) (hn:n≤1000000000) (CF:∀ x ∈ l,∀ w',Below w.heap.size w w'→Calls Tryz.prog 127 #[.int .i64 x,.pointer (some ⟨G,0,none⟩)] w' fun e w''=>e=.returned (.bool (p x))∧Below w'.heap.size w' w'') :
  Calls Tryz.prog 85 #[.slice A n c,.func (.func 127) #[] #[.pointer (some ⟨G,0,none⟩)]] w fun e w'=>e=.returned (.bool (l.any p))∧Below w.heap.size w w':=by
 have CI:=indexI63 G p A n c l w hl hn CF
 go_enter Tryz.func85,Tryz.ntmps85
 go_wp2_with fail
 refine CI.mono ?_
 rintro e w1 ⟨⟨i,rfl,hi⟩,hb1⟩
 go_wp2_with fail
 go_ret
 exact ⟨by rw [←hi];rfl,hb1⟩
set_option maxHeartbeats 4000000 in
theorem indexI41 (G:Nat) (p:Int→Bool) (A:Option Addr) (n c:Nat) (l:List Int) (w:World) (hl:Ints w A n l) (hn:n≤1000000000) (CF:∀ x ∈ l,∀ w',Below w.heap.size w w'→Calls Tryz.prog 86 #[.int .i64 x,.pointer (some ⟨G,0,none⟩)] w' fun e w''=>e=.returned (.bool (p x))∧Below w'.heap.size w' w'') :
  Calls Tryz.prog 136 #[.slice A n c,.func (.func 86) #[] #[.pointer (some ⟨G,0,none⟩)]] w fun e w'=>(∃ i:Int,e=.returned (.int .i64 i)∧(decide (0≤i))=l.any p)∧Below w.heap.size w w':=by
 go_enter Tryz.func136,Tryz.ntmps136
 go_wp2_with fail
 go_loopw [8] (fun vi wr=>∃ k:Nat,vi=.int .i64 k∧k≤n∧Hid (l.any p=(l.drop k).any p)∧Below w.heap.size w wr) (fun vi _=>n - (intOf vi).toNat)
 case atStart=>exact ⟨0,rfl,by omega,by show _=_;rw [List.drop_zero],Below.refl _ _⟩
 case round =>
  obtain ⟨k,rfl,hk,hr,hW⟩:=hrel
  by_cases hlt:k < n
  ·obtain ⟨ad,x,rfl,hg,c0⟩:=(hl.below hW).at_ hlt
   have HS:=Lib.hid (drop_any (p:=p) hg)
   have CB:=CF x (List.mem_of_getElem? hg) wr hW
   obtain ⟨r9,hr9⟩:∃ r9,r9=p x:=⟨_,rfl⟩
   try rw [show p x=r9 from hr9.symm] at CB
   have HR9:=Lib.hid hr9
   have k0:(0:Int)≤(k:Int):=by omega
   have k1:(k:Int) < (n:Int):=by omega
   clear hg hr9
   go_wp2_with fail
   refine CB.mono ?_
   rintro e w1 ⟨rfl,hW1⟩
   have hW2:=bel hW hW1
   clear CB
   cases r9
   ·go_wp2_with fail
    go_roundw
    case rel=>exact ⟨k + 1,by go_num,by omega,by show _=_;rw [hr.out,HS.out,←HR9.out];rfl,hW2⟩
    case measure=>simp [intOf];omega
   ·go_wp2_with fail
    go_ret
    exact ⟨⟨k,rfl,by rw [hr.out,HS.out,←HR9.out];simp⟩,hW2⟩
  ·have hd:l.drop k=[]:=List.drop_eq_nil_of_le (by rw [←hl.1];omega)
   have HD:=Lib.hid hd
   clear hd
   go_wp2_with fail
   go_ret
   exact ⟨⟨-1,rfl,by rw [hr.out,HD.out];rfl⟩,hW⟩
set_option maxHeartbeats 4000000 in
theorem containsI41 (G:Nat) (p:Int→Bool) (A:Option Addr) (n c:Nat) (l:List Int) (w:World) (hl:Ints w A n l) (hn:n≤1000000000) (CF:∀ x ∈ l,∀ w',Below w.heap.size w w'→Calls Tryz.prog 86 #[.int .i64 x,.pointer (some ⟨G,0,none⟩)] w' fun e w''=>e=.returned (.bool (p x))∧Below w'.heap.size w' w'') :
  Calls Tryz.prog 85 #[.slice A n c,.func (.func 86) #[] #[.pointer (some ⟨G,0,none⟩)]] w fun e w'=>e=.returned (.bool (l.any p))∧Below w.heap.size w w':=by
 have CI:=indexI41 G p A n c l w hl hn CF
 go_enter Tryz.func85,Tryz.ntmps85
 go_wp2_with fail
 refine CI.mono ?_
 rintro e w1 ⟨⟨i,rfl,hi⟩,hb1⟩
 go_wp2_with fail
 go_ret
 exact ⟨by rw [←hi];rfl,hb1⟩
set_option maxHeartbeats 4000000 in
theorem part1_any (G:Nat) (B:Option Addr) (m d:Nat) (b:List Int) (x:Int) (w:World) (hG:w.heap[G]? = some (.cells #[.slice B m d] 48 (0,0))) (hb:Ints w B m b) (hm:m≤1000000000) :
  Calls Tryz.prog 127 #[.int .i64 x,.pointer (some ⟨G,0,none⟩)] w fun e w'=>e=.returned (.bool (!(b.any (· == x))))∧Below w.heap.size w w':=by
 have c0:=blk_cell hG 0 _ rfl
 go_enter Tryz.func127,Tryz.ntmps127
 go_wp2_with fail
 refine (contains64_any B m d b x w hb hm).mono ?_
 rintro e w1 ⟨rfl,hb1⟩
 go_wp2_with fail
 go_ret
 exact ⟨rfl,hb1⟩
theorem A.part_eq (a b:List Int):(!(a.any fun x=>!(b.any (· == x))))=A.part a b:=by
 unfold A.part
 rw [List.all_eq_not_any_not]
set_option maxHeartbeats 4000000 in
theorem part32_any (E:Option Addr) (n c:Nat) (a:List Int) (B:Option Addr) (m d:Nat) (b:List Int) (w:World) (ha:Ints w E n a) (hn:n≤1000000000) (hb:Ints w B m b) (hm:m≤1000000000) :
  Calls Tryz.prog 77 #[.slice E n c,.slice B m d] w fun e w'=>e=.returned (.bool (A.part a b))∧Below w.heap.size w w':=by
 have b0:Below w.heap.size w (w.alloc (.cells #[.slice B m d] 48)):=(Below.refl _ _).alloc (Nat.le_refl _) _
 have hG:=heap_alloc_new w (.cells #[.slice B m d] 48)
 have CC:=containsI63 w.heap.size (fun x=>!(b.any (· == x))) E n c a (w.alloc (.cells #[.slice B m d] 48)) (ha.below b0) hn (fun x _ w' hb'=>part1_any w.heap.size B m d b x w' (blk_below hb' hG) ((hb.below b0).below hb') hm)
 go_enter Tryz.func77,Tryz.ntmps77
 go_wp2_with fail
 refine CC.mono ?_
 rintro e w1 ⟨rfl,hb1⟩
 go_wp2_with fail
 go_ret
 exact ⟨by rw [←A.part_eq];rfl,bel b0 hb1⟩
namespace K
section
variable {nd : Int} {l : List Ro} {ss : List S} {r : List Q} {last : Int} {served : List Int} {t : Int × Tr} {rest : List (Int × Tr)}
theorem cg_neg (h:t.1 < 0∨(ss.length:Int)≤t.1):checkGo nd l ss r last served (t :: rest)=1:=by
 unfold checkGo
 by_cases hn:t.1 < 0
 ·rw [if_pos hn]
 ·rw [if_neg hn,List.getElem?_eq_none (by omega)]
theorem cg_some {x:S} (h0:0≤t.1) (hx:ss[t.1.toNat]? = some x):checkGo nd l ss r last served (t :: rest)=if t.1≤last then 5 else if t.2.stops.isEmpty || !(check nd l x r t.2) then 24 else if t.2.stops.any (fun k=>served.any (· == k)) then 5 else checkGo nd l ss r t.1 (served ++ t.2.stops) rest:=by
 rw [checkGo,if_neg (by omega),hx]
end
theorem checks_net {nd:Int} {l:List Ro} {ss:List S} {r:List Q} {ts:List (Int × Tr)} (h:pcheck nd l ss r ≠ 0):checks nd l ss r ts=pcheck nd l ss r:=by unfold checks;rw [if_neg h]
theorem checks_go {nd:Int} {l:List Ro} {ss:List S} {r:List Q} {ts:List (Int × Tr)} (h:pcheck nd l ss r=0):checks nd l ss r ts=checkGo nd l ss r (-1) [] ts:=by unfold checks;rw [if_pos h]
theorem nodup_app {a b:List Int} (ha:a.Nodup) (hb:b.Nodup) (h:b.any (fun k=>a.any (· == k))=false):(a ++ b).Nodup:=by
 rw [List.nodup_append]
 refine ⟨ha,hb,fun x hx y hy e=>?_⟩
 subst e
 rw [List.any_eq_false] at h
 exact h x hy (List.any_eq_true.2 ⟨x,hx,beq_self_eq_true _⟩)
theorem nodup_len {a:List Int} {n:Nat} (ha:a.Nodup) (hb:∀ z ∈ a,0≤z∧z < (n:Int)):a.length≤n:=by
 have:=len_sub (b:=iota n) ha fun z hz=>mem_iota.2 (hb z hz)
 unfold iota at this
 rw [List.length_map,List.length_range] at this
 exact this
end K
open Go.Maps in
theorem addKey_len:∀ (l:List Int) (acc:List Lit),(∀ x ∈ l,acc.any (fun y=>y.sameKey (.int .i64 x))=false)→l.Nodup→((l.map (Lit.int .i64)).foldl addKey acc).length=acc.length + l.length
 | [],acc,_,_=>rfl
 | x :: l,acc,h,hn=>by
  obtain ⟨h1,h2⟩:=List.nodup_cons.1 hn
  rw [List.map_cons,List.foldl_cons]
  have hx:=h x (List.mem_cons_self ..)
  have e:addKey acc (.int .i64 x)=acc ++ [.int .i64 x]:=by unfold addKey;rw [hx];rfl
  rw [e,addKey_len l _ (fun y hy=>?_) h2,List.length_append,List.length_cons]
  ·simp;omega
  ·rw [List.any_append,h y (List.mem_cons_of_mem _ hy),Bool.false_or]
   simp only [List.any_cons,List.any_nil,Bool.or_false]
   have hne:x ≠ y:=fun e=>h1 (by rw [e];exact hy)
   simp [Lit.sameKey,hne]
open Go.Maps in
theorem seen_len {l:List Int} (h:l.Nodup):Maps.size (seen l)=l.length:=by
 unfold seen
 rw [size_setOf _ _ (fun x hx=>by obtain ⟨y,-,rfl⟩:=List.mem_map.1 hx;trivial),addKey_len l [] (fun _ _=>rfl) h]
 simp
set_option maxHeartbeats 4000000 in
theorem chk1_any (G mb n:Nat) (served:List Int) (x:Int) (w:World) (hG:w.heap[G]? = some (.cells #[.map (some mb)] 120 (0,0))) (hS:Seen w mb n served) (hx:(Lit.int .i64 x).wf=true) :
  Calls Tryz.prog 86 #[.int .i64 x,.pointer (some ⟨G,0,none⟩)] w fun e w'=>e=.returned (.bool (served.any (· == x)))∧Below w.heap.size w w':=by
 have c0:=blk_cell hG 0 _ rfl
 have LK:=hS.look x hx
 go_enter Tryz.func86,Tryz.ntmps86
 go_wp2_with fail
 go_ret
 exact ⟨rfl,Below.refl _ _⟩
end Go.Proofs.YtippdjmpkafifaaGreat
namespace Go.Proofs.YtippdjmpkafifaaGreat
open Go.RowKit Go.Maps
def FewT (tn:Nat) (ts:List TV):Prop:=tn≤1000000000∧∀ y ∈ ts,y.n≤100000∧y.n'≤1000000000
set_option maxRecDepth 100000 in
set_option maxHeartbeats 16000000 in
theorem checks32_any (x:Cs) (TA:Option Addr) (tn tc:Nat) (ts:List TV) (w:World) (hx:CsAt w x) (hT:Tours w TA tn ts) (hF:FewT tn ts) :
  Calls Tryz.prog 26 #[.agg #[.int .i64 x.nd,.slice x.A x.n x.c],.slice x.SA x.sn x.sc,.slice x.B x.m x.d,.slice TA tn tc] w fun e w'=>e=.returned (.int .i64 (K.checks x.nd x.l x.ss x.r (ts.map TV.pr)))∧Below w.heap.size w w':=by
 have hN:=Net.new w x.nd x.A x.n x.c
 have p0:=hN.c0
 have p1:=hN.c1
 have b0:Below w.heap.size w (w.alloc (.cells #[.int .i64 x.nd,.slice x.A x.n x.c] 24)):=(Below.refl _ _).alloc (Nat.le_refl _) _
 go_enter Tryz.func26,Tryz.ntmps26
 go_wp2_with fail
 refine (check32_any x _ (hx.below b0)).mono ?_
 obtain ⟨ce,hce⟩:∃ ce,ce=K.pcheck x.nd x.l x.ss x.r:=⟨_,rfl⟩
 rw [←hce]
 rintro e w1 ⟨rfl,b1⟩
 have hN1:=hN.below b1
 have hb1:=bel b0 b1
 clear p0 p1 b0 b1 hN
 by_cases hz:ce=0
 rotate_left
 ·have HX:=Lib.hid (show K.checks x.nd x.l x.ss x.r (ts.map TV.pr)=ce by rw [hce] at hz ⊢;exact K.checks_net hz)
  have hd:(ce != 0)=true:=by simp [bne,hz]
  clear hce
  go_wp2_with fail
  go_ret
  exact ⟨by rw [HX.out];rfl,hb1⟩
 subst hz
 have HOK:=Lib.hid hce.symm
 clear hce
 have HSN:=Lib.hid hx.shifts.1.1
 have HRN:=Lib.hid hx.reqs.1
 have HTN:=Lib.hid hT.1.1
 have hm6:x.m≤6:=by rw [HRN.out];exact (K.pcheck_ok HOK.out).2.2.2.2
 have hsn4:x.sn≤4:=by rw [HSN.out];exact (K.pcheck_ok HOK.out).2.1
 have HCK:=Lib.hid (show K.checks x.nd x.l x.ss x.r (ts.map TV.pr)=_ from K.checks_go HOK.out)
 obtain ⟨L,hL⟩:∃ L,L=ts.map TV.pr:=⟨_,rfl⟩
 rw [←hL] at HCK
 have HL:=Lib.hid hL
 have hmm:=@run_makeMap Tryz.prog
 obtain ⟨htn9,hty⟩:=hF
 obtain ⟨w2,hw2⟩:∃ w2:World,w2=(w1.alloc (.map #[] 0)).alloc (.cells #[.map (some w1.heap.size)] 120):=⟨_,rfl⟩
 obtain ⟨mp,hmp⟩:∃ mp,mp=w1.heap.size:=⟨_,rfl⟩
 have z1:=World.size_alloc w1 (.map #[] 0)
 have b12:Below w1.heap.size w1 w2:=by rw [hw2];exact bel ((Below.refl _ _).alloc (Nat.le_refl _) _) ((Below.refl _ _).alloc (Nat.le_refl _) _)
 have hG2:w2.heap[mp + 1]? = some (.cells #[.map (some mp)] 120 (0,0)):=by rw [hw2,hmp];exact heap_alloc_at _ _ _ z1.symm
 have hS2:Seen w2 mp 0 []:=by
  rw [hw2,hmp]
  have h:=World.ownsMap_made w1 Tryz.prog 3 (plainElem (H:=Unit) Tryz.prog 4)
  exact Seen.below (by rw [Seen,seen_nil];exact h) ((Below.refl _ _).alloc (Nat.le_refl _) _)
 go_upto_region 5 with fail
 rw [←hw2,←hmp]
 have hbm:w1.heap.size≤mp:=by rw [hmp];exact Nat.le_refl _
 have hmp1:mp < w2.heap.size:=by have:=lt_of_block hG2;omega
 clear hw2 hmp z1 hmm hL
 go_wp2_with fail
 go_loopw [11,26] (fun v11 v26 wr=>∃ (k:Nat) (last:Int) (served:List Int),v26=.int .i64 k∧k≤tn∧v11=.int .i64 last∧Seen wr mp served.length served∧wr.heap[mp + 1]? = some (.cells #[.map (some mp)] 120 (0,0))∧Below w1.heap.size w1 wr∧Hid (served.Nodup∧(∀ z ∈ served,0≤z∧z < (x.m:Int)))∧served.length≤6∧Hid (K.checks x.nd x.l x.ss x.r L=K.checkGo x.nd x.l x.ss x.r last served (L.drop k))∧mp < wr.heap.size) (fun _ v26 _=>tn - (intOf v26).toNat)
 case atStart=>exact ⟨0,-1,[],rfl,Nat.zero_le _,rfl,hS2,hG2,b12,⟨List.nodup_nil,fun z hz=>(by cases hz)⟩,Nat.zero_le _,HCK.out,hmp1⟩
 case round =>
  clear hS2 hG2 b12 hmp1
  obtain ⟨k,last,served,rfl,hk,rfl,hS,hG,hbr,hsv,hl6,hck,hmr⟩:=hrel
  by_cases hlt:k < tn
  ·obtain ⟨ad,y,hTA,hy,⟨hI1,hI2⟩,c0,c1,c2,c3⟩:=(hT.below (bel hb1 hbr)).at_ hlt
   have HYM:=Lib.hid (List.mem_of_getElem? hy)
   obtain ⟨hyn,hyn'⟩:=hty y (List.mem_of_getElem? hy)
   have hLk:L[k]? = some y.pr:=by rw [HL.out,List.getElem?_map,hy];rfl
   have HDR:=Lib.hid (show K.checks x.nd x.l x.ss x.r L=K.checkGo x.nd x.l x.ss x.r last served (y.pr :: L.drop (k + 1)) by rw [hck.out,drop_of_some hLk])
   have k0:(0:Int)≤(k:Int):=by omega
   have k1:(k:Int) < (tn:Int):=by omega
   obtain ⟨g,hg⟩:∃ g,g=wr.heap.size:=⟨_,rfl⟩
   obtain ⟨w3,hw3⟩:∃ w3:World,w3=wr.alloc (.cells #[.int .i64 y.sh,.slice y.A y.n y.c,.slice y.A' y.n' y.c',.int .i64 y.t.end_] 80):=⟨_,rfl⟩
   have b3:Below wr.heap.size wr w3:=by rw [hw3];exact (Below.refl _ _).alloc (Nat.le_refl _) _
   have hB3:TBlk w3 g y.sh (.slice y.A y.n y.c) (.slice y.A' y.n' y.c') y.t.end_:=by rw [hw3,hg];exact heap_alloc_new _ _
   have hS3:=hS.below b3
   have hG3:=blk_below b3 hG
   have hb3:=bel hbr b3
   have hI13:=hI1.below b3
   have hI23:=hI2.below b3
   have hm3:mp < w3.heap.size:=Nat.lt_of_lt_of_le hmr b3.size
   have hN3:=hN1.below hb3
   clear hy hLk hck hS hG hI1 hI2 hbr hmr
   have HYN:=Lib.hid hI13.1
   by_cases hneg:y.sh < 0
   ·have hd1:decide (y.sh < 0)=true:=decide_eq_true hneg
    have HX:=Lib.hid (show K.checks x.nd x.l x.ss x.r L=1 by rw [HDR.out];exact K.cg_neg (.inl hneg))
    rw [hTA]
    go_upto_region 8 with fail
    rw [←hw3,←hg]
    clear hw3 hg c0 c1 c2 c3 hTA b3
    obtain ⟨t0,t1,t2,t3⟩:=hB3.cells
    go_wp2_with fail
    go_ret
    exact ⟨by rw [←HL.out,HX.out];rfl,bel hb1 hb3⟩
   have hd1:decide (y.sh < 0)=false:=decide_eq_false hneg
   by_cases hbig:(x.sn:Int)≤y.sh
   ·have hd2:decide ((x.sn:Int)≤y.sh)=true:=decide_eq_true hbig
    have HX:=Lib.hid (show K.checks x.nd x.l x.ss x.r L=1 by rw [HDR.out];exact K.cg_neg (.inr (by rw [←HSN.out];exact hbig)))
    rw [hTA]
    go_upto_region 8 with fail
    rw [←hw3,←hg]
    clear hw3 hg c0 c1 c2 c3 hTA b3
    obtain ⟨t0,t1,t2,t3⟩:=hB3.cells
    go_wp2_with fail
    go_ret
    exact ⟨by rw [←HL.out,HX.out];rfl,bel hb1 hb3⟩
   have hd2:decide ((x.sn:Int)≤y.sh)=false:=decide_eq_false hbig
   obtain ⟨s,hs⟩:∃ s:Nat,y.sh=(s:Int):=⟨y.sh.toNat,by omega⟩
   have hsn:s < x.sn:=by omega
   obtain ⟨ads,sS,hSA,hsS,hIS,s0,s1,s2,s3,s4,s5⟩:=((hx.below hb1).below hb3).shifts.at_ hsn
   have HST:Hid (K.checks x.nd x.l x.ss x.r L=if y.sh≤last then 5 else if y.t.stops.isEmpty || !(K.check x.nd x.l sS x.r y.t) then 24 else if y.t.stops.any (fun k=>served.any (· == k)) then 5 else K.checkGo x.nd x.l x.ss x.r y.sh (served ++ y.t.stops) (L.drop (k + 1))) :=
    Lib.hid (HDR.out.trans (K.cg_some (t:=y.pr) (by show 0≤y.sh;omega) (by show x.ss[y.sh.toNat]? = _;rw [hs];exact hsS)))
   have hsm:=List.mem_of_getElem? hsS
   have HSS:=Lib.hid hs
   clear hs
   rw [hTA,hSA]
   go_upto_region 8 with fail
   rw [←hw3,←hg]
   clear hw3 hg c0 c1 c2 c3 hTA b3 HDR hsS hSA hneg hbig
   obtain ⟨t0,t1,t2,t3⟩:=hB3.cells
   by_cases hle:y.sh≤last
   ·have hd3:decide (y.sh≤last)=true:=decide_eq_true hle
    have HX:=Lib.hid (show K.checks x.nd x.l x.ss x.r L=5 by rw [HST.out,if_pos hle])
    clear s0 s1 s2 s3 s4 s5
    go_wp2_with fail
    go_ret
    exact ⟨by rw [←HL.out,HX.out];rfl,bel hb1 hb3⟩
   have hd3:decide (y.sh≤last)=false:=decide_eq_false hle
   have HST2:=Lib.hid (HST.out.trans (if_neg hle))
   by_cases hn0:y.n=0
   ·have hd4:((y.n:Int) == 0)=true:=by rw [hn0];rfl
    have hd5:decide ((y.n:Int)=0)=true:=by rw [hn0];rfl
    have HX:=Lib.hid (show K.checks x.nd x.l x.ss x.r L=24 by
     rw [HST2.out,show y.t.stops=[] from List.length_eq_zero_iff.1 (by rw [←HYN.out];exact hn0)];rfl)
    clear s0 s1 s2 s3 s4 s5
    go_wp2_with fail
    go_quiet (fail)
    go_wp2_with fail
    go_ret
    exact ⟨by rw [←HL.out,HX.out];rfl,bel hb1 (below_drewN hb3 _)⟩
   have hd4:((y.n:Int) == 0)=false:=by simp [hn0]
   have hd5:decide ((y.n:Int)=0)=false:=by simp [hn0]
   have hie:y.t.stops.isEmpty=false:=by
    cases he:y.t.stops with
    | nil=>have h9:=HYN.out;rw [he] at h9;exact absurd h9 hn0
    | cons a b=>rfl
   rw [hie,Bool.false_or] at HST2
   have p0:=Beh.cell hN3.c0
   have p1:=Beh.cell hN3.c1
   have q0:=Beh.cell t0
   have q1:=Beh.cell t1
   have q2:=Beh.cell t2
   have q3:=Beh.cell t3
   have r0:=Beh.cell s0
   have r1:=Beh.cell s1
   have r2:=Beh.cell s2
   have r3:=Beh.cell s3
   have r4:=Beh.cell s4
   have r5:=Beh.cell s5
   have hxw3:=(hx.below hb1).below hb3
   have CT:=fun i:Beh w3=>tcheck_any (x.one sS) y i.val ((hxw3.below i.property).case hsm) ⟨hI13.below i.property,hI23.below i.property,by omega,hyn'⟩ hyn
   obtain ⟨cb,hcb⟩:∃ cb,cb=K.check x.nd x.l sS x.r y.t:=⟨_,rfl⟩
   have HCB:=Lib.hid hcb
   rw [←hcb] at HST2
   have CT2:∀ i:Beh w3,Calls Tryz.prog 84 #[.agg #[.int .i64 x.nd,.slice x.A x.n x.c],.agg #[.int .i64 sS.day,.int .i64 sS.depot,.int .i64 sS.start,.int .i64 sS.end_,.int .i64 sS.tare,.slice sS.A sS.n sS.c],.slice x.B x.m x.d,.agg #[.int .i64 y.sh,.slice y.A y.n y.c,.slice y.A' y.n' y.c',.int .i64 y.t.end_]] i.val fun e w'=>e=.returned (.bool cb)∧Below i.val.heap.size i.val w':=fun i=>by rw [hcb];exact CT i
   have ks0:(0:Int)≤(s:Int):=by omega
   have ks1:(s:Int) < (x.sn:Int):=by omega
   clear CT hcb hie hle hn0 HST
   rw [HSS.out] at t0 q0 CT2 hd1 hd2 hd3 ⊢
   go_upto_region 12 with fail
   clear hd1 hd2 hd3
   refine reg_beh (by kernel_rfl) (by kernel_rfl) ?_
   repeat (go_big_quiet_step ((go_at_call 84;exact Beh.calls (CT2 _))))
   refine wpQuiet_nil ?_
   rintro w4 ⟨⟨w4,b4⟩,rfl⟩
   have hB4:=hB3.below b4
   have hS4:=hS3.below b4
   have hG4:=blk_below b4 hG3
   have hb4:=bel hb3 b4
   have hI14:=hI13.below b4
   have hm4:mp < w4.heap.size:=Nat.lt_of_lt_of_le hm3 b4.size
   clear p0 p1 q0 q1 q2 q3 r0 r1 r2 r3 r4 r5 s0 s1 s2 s3 s4 s5 t0 t1 t2 t3 CT2 hB3 hS3 hG3 hb3 hI13 hI23 hm3 hN3 hd4 hd5 hxw3 hIS ks0 ks1 b4
   obtain ⟨t0,t1,t2,t3⟩:=hB4.cells
   cases cb
   ·have HX:=Lib.hid (show K.checks x.nd x.l x.ss x.r L=24 by rw [HST2.out];rfl)
    clear t0 t1 t2 t3
    go_wp2_with fail
    go_ret
    exact ⟨by rw [←HL.out,HX.out];rfl,bel hb1 hb4⟩
   obtain ⟨-,hst2,hst3⟩:=K.check_run HCB.out.symm
   have HS3:=Lib.hid hst3
   have HS2:=Lib.hid (show ∀ z ∈ y.t.stops,0≤z∧z < (x.m:Int) from fun z hz=>by have:=hst2 z hz;have:=HRN.out;omega)
   have HST3:=Lib.hid (show K.checks x.nd x.l x.ss x.r L=if y.t.stops.any (fun k=>served.any (· == k)) then 5 else K.checkGo x.nd x.l x.ss x.r y.sh (served ++ y.t.stops) (L.drop (k + 1)) by rw [HST2.out];rfl)
   have CC:=containsI41 (mp + 1) (fun k=>served.any (· == k)) y.A y.n y.c y.t.stops w4 hI14 (by omega) (fun z hz w' hb'=>chk1_any (mp + 1) mp served.length served z w' (blk_below hb' hG4) (hS4.below hb') (wf_small (by have:=HS2.out z hz;omega) (by have:=HS2.out z hz;omega)))
   obtain ⟨db,hdb⟩:∃ db,db=y.t.stops.any (fun k=>served.any (· == k)):=⟨_,rfl⟩
   rw [←hdb] at CC HST3
   have HDB:=Lib.hid hdb
   clear HST2 hst2 hst3 hdb
   go_wp2_with fail
   refine CC.mono ?_
   rintro e w5 ⟨rfl,b5⟩
   have hB5:=hB4.below b5
   have hS5:=hS4.below b5
   have hG5:=blk_below b5 hG4
   have hb5:=bel hb4 b5
   have hm5:mp < w5.heap.size:=Nat.lt_of_lt_of_le hm4 b5.size
   have hI5:=hI14.below b5
   clear CC t0 t1 t2 t3 hB4 hS4 hG4 hb4 hm4 hI14 b5
   obtain ⟨t0,t1,t2,t3⟩:=hB5.cells
   cases db
   rotate_left
   ·have HX:=Lib.hid (show K.checks x.nd x.l x.ss x.r L=5 by rw [HST3.out];rfl)
    clear t0 t1 t2 t3
    go_wp2_with fail
    go_ret
    exact ⟨by rw [←HL.out,HX.out];rfl,bel hb1 hb5⟩
   have HST4:=Lib.hid (show K.checks x.nd x.l x.ss x.r L=K.checkGo x.nd x.l x.ss x.r y.sh (served ++ y.t.stops) (L.drop (k + 1)) by rw [HST3.out];rfl)
   have hnd:=K.nodup_app hsv.out.1 HS3.out HDB.out.symm
   have hrg:∀ z ∈ served ++ y.t.stops,0≤z∧z < (x.m:Int):=fun z hz=>(List.mem_append.1 hz).elim (hsv.out.2 z) (HS2.out z)
   have hlen:=K.nodup_len hnd hrg
   rw [List.length_append] at hlen
   have hln6:(served ++ y.t.stops).length≤6:=by rw [List.length_append];omega
   have HND:=Lib.hid (And.intro hnd hrg)
   have HLEN:=Lib.hid hlen
   have hyl:y.n=y.t.stops.length:=hI5.1
   have hy6:y.n≤6:=by omega
   have HYL:=Lib.hid hyl
   have hsl6:served.length≤6:=hl6
   clear HST3 hnd hrg hlen hyl
   go_wp2_with fail
   clear t0 t1 t2 t3
   go_loopw [73] (fun v73 wi=>∃ j:Nat,v73=.int .i64 j∧j≤y.n∧Seen wi mp (served.length + j) (served ++ y.t.stops.take j)∧wi.heap[mp + 1]? = some (.cells #[.map (some mp)] 120 (0,0))∧Below w1.heap.size w1 wi∧mp < wi.heap.size) (fun v73 _=>y.n - (intOf v73).toNat)
   case atStart=>exact ⟨0,rfl,Nat.zero_le _,by rw [List.take_zero,List.append_nil];exact hS5,hG5,hb5,hm5⟩
   case round =>
    clear hS5 hG5 hb5 hm5 hB5 hI5
    obtain ⟨j,rfl,hj,hSi,hGi,hbi,hmi⟩:=hrel
    by_cases hltj:j < y.n
    ·obtain ⟨ady,z,hyA,hz,cz⟩:=((hT.2 y HYM.out).1.below (bel hb1 hbi)).at_ hltj
     have hwf:(Lit.int .i64 z).wf=true:=by
      have:=HS2.out z (List.mem_of_getElem? hz)
      exact wf_small (by omega) (by omega)
     have HZ:=Lib.hid hz
     have cG:=blk_cell hGi 0 _ rfl
     have kj0:(0:Int)≤(j:Int):=by omega
     have kj1:(j:Int) < (y.n:Int):=by omega
     clear hz
     rw [hyA]
     go_wp2_with (first
      | (at_mapUpdate;refine wpList_mapUpdate_own _ rfl _ _ _ 120 rfl 3 4 law3 Tryz.underlying120 _ mp (served.length + j) _ rfl hSi (by unfold maxLen;omega) _ _ _ rfl rfl (keyOf_int_mk Tryz.underlying3 hwf) _ [] (plainElem_bool Tryz.underlying4 true) ?_;intro w6 hown6 hgrow6)
      | fail)
     have hS6:Seen w6 mp (served.length + (j + 1)) (served ++ y.t.stops.take (j + 1)):=by
      obtain ⟨hk',e⟩:=List.getElem?_eq_some_iff.1 HZ.out
      rw [Seen,List.take_succ_eq_append_getElem hk',e,←List.append_assoc,seen_snoc]
      exact hown6
     have hG6:=grow_blk hgrow6 hGi (fun e=>by injection e with e;omega)
     have hb6:Below w1.heap.size w1 w6:=below_own2 hbi hgrow6 (fun g e=>by injection e with e;omega)
     have hm6':mp < w6.heap.size:=Nat.lt_of_lt_of_le hmi hgrow6.size
     clear hown6 hgrow6 hSi hGi hbi hmi cz cG hwf
     go_roundw
     case rel=>(go_light;exact ⟨j + 1,by go_num,hltj,hS6,hG6,hb6,hm6'⟩)
     case measure=>(go_light;simp [intOf];omega)
    ·have hSe:Seen wr mp (served ++ y.t.stops).length (served ++ y.t.stops):=by
      have h9:=hSi
      rw [List.take_of_length_le (by rw [←HYL.out];omega),show served.length + j=(served ++ y.t.stops).length by rw [List.length_append,←HYL.out];omega] at h9
      exact h9
     clear hSi
     go_wp2_with fail
     go_roundw
     case rel=>(go_light;exact ⟨k + 1,y.sh,served ++ y.t.stops,by go_num,hlt,by rw [HSS.out],hSe,hGi,hbi,HND.out,hln6,HST4.out,hmi⟩)
     case measure=>(go_light;simp [intOf];omega)
  ·have HE:=Lib.hid (show K.checks x.nd x.l x.ss x.r L=if served.length < x.m then 4 else 0 by
    rw [hck.out,List.drop_eq_nil_of_le (by rw [HL.out,List.length_map,←HTN.out];omega),HRN.out]
    rfl)
   have hsz:=seen_len hsv.out.1
   have cG:=blk_cell hG 0 _ rfl
   by_cases hlm:served.length < x.m
   ·have hd:decide ((served.length:Int) < (x.m:Int))=true:=by simp;omega
    have hdn:decide (served.length < x.m)=true:=decide_eq_true hlm
    go_wp2_with (first | (at_len;refine wpList_len_own _ rfl _ 120 rfl 3 4 Tryz.underlying120 _ mp served.length _ rfl hS ?_;rw [hsz]) | fail)
    go_ret
    exact ⟨by rw [←HL.out,HE.out,if_pos hlm];rfl,bel hb1 hbr⟩
   ·have hd:decide ((served.length:Int) < (x.m:Int))=false:=by simp;omega
    have hdn:decide (served.length < x.m)=false:=decide_eq_false hlm
    go_wp2_with (first | (at_len;refine wpList_len_own _ rfl _ 120 rfl 3 4 Tryz.underlying120 _ mp served.length _ rfl hS ?_;rw [hsz]) | fail)
    go_ret
    exact ⟨by rw [←HL.out,HE.out,if_neg hlm];rfl,bel hb1 hbr⟩
end Go.Proofs.YtippdjmpkafifaaGreat
namespace Go.Proofs.YtippdjmpkafifaaGreat
open Go.RowKit
def Shs (w:World) (E:Option Addr) (n:Nat) (l:List Sh):Prop:=Lst (fun s=>[Sh.val s]) 1 w E n l∧∀ s ∈ l,Ints w s.A s.n s.l∧s.n≤s.c∧(s.A=none→s.n=0∧s.c=0)
theorem Shs.below {w w':World} {E:Option Addr} {n:Nat} {l:List Sh} (h:Shs w E n l) (hb:Below w.heap.size w w'):Shs w' E n l:=⟨Lst.below h.1 hb,fun s hs=>⟨(h.2 s hs).1.below hb,(h.2 s hs).2⟩⟩
theorem Shs.at_ {w:World} {E:Option Addr} {n k:Nat} {l:List Sh} (h:Shs w E n l) (hk:k < n):∃ ad s,E=some ad∧l[k]? = some s∧(Ints w s.A s.n s.l∧s.n≤s.c∧(s.A=none→s.n=0∧s.c=0))∧w.cell? (ad.add k)=some (.slice s.A s.n s.c):=by
 obtain ⟨ad,s,hA,hl,hc⟩:=Lst.get (f:=fun s=>[Sh.val s]) (s:=1) (fun _=>rfl) h.1 hk
 refine ⟨ad,s,hA,hl,h.2 s (List.mem_of_getElem? hl),?_⟩
 have:=hc 0 _ (by omega) rfl
 rwa [Nat.mul_one,Nat.add_zero] at this
structure BV where
 sh:Int
 V:Option Addr
 vn:Nat
 vc:Nat
 v:List Int
 LA:Option Addr
 ln:Nat
 lc:Nat
 lb:List Lb
def BV.cells (b:BV):List Value:=[.int .i64 b.sh,.slice b.V b.vn b.vc,.slice b.LA b.ln b.lc]
def Blks (w:World) (A:Option Addr) (n:Nat) (l:List BV):Prop:=Lst BV.cells 3 w A n l∧∀ b ∈ l,Ints w b.V b.vn b.v∧Labs w b.LA b.ln b.lb
theorem Blks.below {w w':World} {A:Option Addr} {n:Nat} {l:List BV} (h:Blks w A n l) (hb:Below w.heap.size w w'):Blks w' A n l:=⟨Lst.below h.1 hb,fun s hs=>⟨(h.2 s hs).1.below hb,Lst.below (h.2 s hs).2 hb⟩⟩
theorem Blks.at_ {w:World} {A:Option Addr} {n k:Nat} {l:List BV} (h:Blks w A n l) (hk:k < n) :
  ∃ ad b,A=some ad∧l[k]? = some b∧(Ints w b.V b.vn b.v∧Labs w b.LA b.ln b.lb)∧w.cell? (ad.add (k * 3))=some (.int .i64 b.sh)∧w.cell? ⟨(ad.add (k * 3)).block,(ad.add (k * 3)).off + 1,none⟩=some (.slice b.V b.vn b.vc) ∧
   w.cell? ⟨(ad.add (k * 3)).block,(ad.add (k * 3)).off + 2,none⟩=some (.slice b.LA b.ln b.lc):=by
 obtain ⟨ad,b,hA,hl,hc⟩:=Lst.get (f:=BV.cells) (s:=3) (fun _=>rfl) h.1 hk
 refine ⟨ad,b,hA,hl,h.2 b (List.mem_of_getElem? hl),hc 0 _ (by omega) rfl,?_,?_⟩ <;> rw [←add_next _ _ _ (by omega)]
 ·exact hc 1 _ (by omega) rfl
 ·exact hc 2 _ (by omega) rfl
theorem eql97 (a:Option Addr) (l c:Nat) (w:World):(binOp .eql 97 (.slice a l c) (.slice none 0 0)).run Tryz.prog w=.ok (.bool a.isNone) w:=by
 exact Go.run_eql_slice_nil w 97 48 a l c Tryz.underlying97
set_option maxHeartbeats 4000000 in
theorem clone_shs (E:Option Addr) (n c:Nat) (l:List Sh) (w:World) (hl:Shs w E n l) (hn:n≤1000000) (hE:E=none→n=0∧c=0) :
  Calls Tryz.prog 145 #[.slice E n c] w fun e w'=>(∃ v,e=.returned v∧w'.ownsRow w.heap.size 48 1 v n (l.map Sh.val))∧Below w.heap.size w w':=by
 obtain ⟨i0,hi,hz0,hz1,hz2⟩:=info_parts Tryz.info48
 have heq:=eql97
 cases E with
 | none =>
  obtain ⟨rfl,rfl⟩:=hE rfl
  go_enter Tryz.func145,Tryz.ntmps145
  go_wp2_with fail
  go_ret
  have hl0:l=[]:=List.length_eq_zero_iff.1 hl.1.1.symm
  subst hl0
  exact ⟨⟨_,rfl,World.ownsRow_nil _ _ _ _⟩,Below.refl _ _⟩
 | some ad =>
  have hlit:(w.alloc (.cells #[] 48)).ownsRow w.heap.size 48 1 (.slice (some ⟨w.heap.size,0,none⟩) 0 0) 0 []:=World.ownsRow_lit w #[] 0 (Nat.le_refl _) (by simp only [maxLen];omega) (by simp)
  have hb0:=(Below.refl w.heap.size w).alloc (Nat.le_refl _) (.cells #[] 48)
  have hR:Rd (w.alloc (.cells #[] 48)) 1 (some ad) n (l.map Sh.val):=by
   have h9:=(Lst.below hl.1 hb0).2
   have:(l.flatMap fun s=>[Sh.val s])=l.map Sh.val:=by
    clear h9 hl
    induction l with
    | nil=>rfl
    | cons a l ih=>rw [List.flatMap_cons,ih];rfl
   rwa [this] at h9
  go_enter Tryz.func145,Tryz.ntmps145
  go_wp2_with (at_builtin;refine wp_append_rd rfl (.tmp 5) (.tmp 6) 97 rfl w.heap.size 48 i0 (.slice none 0 0) 1 24 Tryz.underlying97 hi hz0 hz1 hz2 rfl (by decide) _ 0 _ rfl hlit (some ad) n c (l.map Sh.val) rfl hR (fun u hu=>by obtain ⟨s,-,rfl⟩:=List.mem_map.1 hu;rfl) (by simp only [maxLen];omega) (by omega) (by first | (simp;done) | (simp;omega)) ?_;intro v' w4 hown4 hgrow4 hat4)
  rw [Nat.zero_add] at hown4
  have hb4:Below w.heap.size w w4:=below_own hb0 (Nat.le_refl _) hgrow4 (fun g h=>(hlit.lt g h).1)
  clear hgrow4 hat4
  go_wp2_with fail
  go_ret
  exact ⟨⟨_,rfl,hown4⟩,hb4⟩
def inShare (shs:List Sh) (b:BV):Bool:=A.part b.v (((shs.map Sh.l)[b.sh.toNat]?).getD [])
set_option maxRecDepth 100000 in
set_option maxHeartbeats 4000000 in
theorem blocked1_any (G:Nat) (E:Option Addr) (n c:Nat) (shs:List Sh) (b:BV) (w:World) (hG:w.heap[G]? = some (.cells #[.slice E n c] 97 (0,0))) (hS:Shs w E n shs) (hI:Ints w b.V b.vn b.v) (hv:b.vn≤1000000000) (h6:∀ s ∈ shs,s.n≤1000000000) (h0:0≤b.sh) (h1:b.sh < (n:Int)) :
  Calls Tryz.prog 144 #[.agg #[.int .i64 b.sh,.slice b.V b.vn b.vc,.slice b.LA b.ln b.lc],.pointer (some ⟨G,0,none⟩)] w fun e w'=>e=.returned (.bool (inShare shs b))∧Below w.heap.size w w':=by
 obtain ⟨s,hs⟩:∃ s:Nat,b.sh=(s:Int):=⟨b.sh.toNat,by omega⟩
 have hsn:s < n:=by omega
 obtain ⟨ad,sh,hE,hsh,⟨hIs,-,-⟩,cs⟩:=hS.at_ hsn
 have HV:=Lib.hid (show inShare shs b=A.part b.v sh.l by unfold inShare;rw [hs,Int.toNat_natCast,List.getElem?_map,hsh];rfl)
 obtain ⟨r9,hr9⟩:∃ r9,r9=A.part b.v sh.l:=⟨_,rfl⟩
 have hn6:=h6 sh (List.mem_of_getElem? hsh)
 obtain ⟨w1,hw1⟩:∃ w1:World,w1=w.alloc (.cells #[.int .i64 b.sh,.slice b.V b.vn b.vc,.slice b.LA b.ln b.lc] 90):=⟨_,rfl⟩
 obtain ⟨H,hH⟩:∃ H,H=w.heap.size:=⟨_,rfl⟩
 have b1:Below w.heap.size w w1:=by rw [hw1];exact (Below.refl _ _).alloc (Nat.le_refl _) _
 have hB:w1.heap[H]? = some (.cells #[.int .i64 b.sh,.slice b.V b.vn b.vc,.slice b.LA b.ln b.lc] 90 (0,0)):=by rw [hw1,hH];exact heap_alloc_new _ _
 have hG1:=blk_below b1 hG
 have k0:(0:Int)≤(s:Int):=by omega
 have k1:(s:Int) < (n:Int):=by omega
 have CP:=fun i:Beh w1=>part32_any b.V b.vn b.vc b.v sh.A sh.n sh.c sh.l i.val ((hI.below b1).below i.property) hv ((hIs.below b1).below i.property) hn6
 simp only [←hr9] at CP
 have HR9:=Lib.hid hr9
 rw [hs] at hB hw1 ⊢
 rw [hE] at hG1
 have q0:=Beh.cell (blk_cell hB 0 _ rfl)
 have q1:=Beh.cell (blk_cell hB 1 _ rfl)
 have q2:=Beh.cell (blk_cell hG1 0 _ rfl)
 have q3:=Beh.cell ((b1.cell (cell_lt cs)).trans cs)
 clear hr9 hs h0 h1 hsh cs hE hG hS hI hIs
 go_enter Tryz.func144,Tryz.ntmps144
 go_upto_region 1 with fail
 rw [←hw1,←hH]
 clear hw1 hH
 refine reg_beh (by kernel_rfl) (by kernel_rfl) ?_
 repeat (go_big_quiet_step ((go_at_call 77;exact Beh.calls (CP _))))
 refine wpQuiet_nil ?_
 rintro w4 ⟨⟨w4,b4⟩,rfl⟩
 go_wp2_with fail
 go_ret
 exact ⟨by rw [HV.out,←HR9.out];rfl,bel b1 b4⟩
def BOk (bl:List BV) (n:Nat):Prop:=∀ b ∈ bl,(0≤b.sh∧b.sh < (n:Int))∧b.vn≤1000000000
set_option maxHeartbeats 4000000 in
theorem index108_any (G:Nat) (E:Option Addr) (n c:Nat) (shs:List Sh) (BA:Option Addr) (bn bc:Nat) (bl:List BV) (w:World) (hl:Blks w BA bn bl) (hbn:bn≤1000000000) (hG:w.heap[G]? = some (.cells #[.slice E n c] 97 (0,0))) (hS:Shs w E n shs) (h6:∀ s ∈ shs,s.n≤1000000000) (hok:BOk bl n) :
  Calls Tryz.prog 193 #[.slice BA bn bc,.func (.func 144) #[] #[.pointer (some ⟨G,0,none⟩)]] w fun e w'=>(∃ i:Int,e=.returned (.int .i64 i)∧(decide (0≤i))=bl.any (inShare shs))∧Below w.heap.size w w':=by
 go_enter Tryz.func193,Tryz.ntmps193
 go_wp2_with fail
 go_loopw [8] (fun vi wr=>∃ k:Nat,vi=.int .i64 k∧k≤bn∧Hid (bl.any (inShare shs)=(bl.drop k).any (inShare shs))∧Below w.heap.size w wr) (fun vi _=>bn - (intOf vi).toNat)
 case atStart=>exact ⟨0,rfl,by omega,by show _=_;rw [List.drop_zero],Below.refl _ _⟩
 case round =>
  obtain ⟨k,rfl,hk,hr,hW⟩:=hrel
  by_cases hlt:k < bn
  ·obtain ⟨ad,b,rfl,hg,⟨hI,-⟩,c0,c1,c2⟩:=(hl.below hW).at_ hlt
   have HS:=Lib.hid (drop_any (p:=inShare shs) hg)
   obtain ⟨⟨o1,o2⟩,o3⟩:=hok b (List.mem_of_getElem? hg)
   have CB:=blocked1_any G E n c shs b wr (blk_below hW hG) (hS.below hW) hI o3 h6 o1 o2
   obtain ⟨r9,hr9⟩:∃ r9,r9=inShare shs b:=⟨_,rfl⟩
   rw [←hr9] at CB
   have HR9:=Lib.hid hr9
   have k0:(0:Int)≤(k:Int):=by omega
   have k1:(k:Int) < (bn:Int):=by omega
   clear hg hr9 hI o1 o2 o3
   go_wp2_with fail
   refine CB.mono ?_
   rintro e w1 ⟨rfl,hW1⟩
   have hW2:=bel hW hW1
   clear CB
   cases r9
   ·go_wp2_with fail
    go_roundw
    case rel=>exact ⟨k + 1,by go_num,by omega,by show _=_;rw [hr.out,HS.out,←HR9.out];rfl,hW2⟩
    case measure=>simp [intOf];omega
   ·go_wp2_with fail
    go_ret
    exact ⟨⟨k,rfl,by rw [hr.out,HS.out,←HR9.out];simp⟩,hW2⟩
  ·have hd:bl.drop k=[]:=List.drop_eq_nil_of_le (by rw [←hl.1.1];omega)
   have HD:=Lib.hid hd
   clear hd
   go_wp2_with fail
   go_ret
   exact ⟨⟨-1,rfl,by rw [hr.out,HD.out];rfl⟩,hW⟩
set_option maxHeartbeats 4000000 in
theorem contains72_any (G:Nat) (E:Option Addr) (n c:Nat) (shs:List Sh) (BA:Option Addr) (bn bc:Nat) (bl:List BV) (w:World) (hl:Blks w BA bn bl) (hbn:bn≤1000000000) (hG:w.heap[G]? = some (.cells #[.slice E n c] 97 (0,0))) (hS:Shs w E n shs) (h6:∀ s ∈ shs,s.n≤1000000000) (hok:BOk bl n) :
  Calls Tryz.prog 143 #[.slice BA bn bc,.func (.func 144) #[] #[.pointer (some ⟨G,0,none⟩)]] w fun e w'=>e=.returned (.bool (bl.any (inShare shs)))∧Below w.heap.size w w':=by
 have CI:=index108_any G E n c shs BA bn bc bl w hl hbn hG hS h6 hok
 go_enter Tryz.func143,Tryz.ntmps143
 go_wp2_with fail
 refine CI.mono ?_
 rintro e w1 ⟨⟨i,rfl,hi⟩,hb1⟩
 go_wp2_with fail
 go_ret
 exact ⟨by rw [←hi];rfl,hb1⟩
theorem hit_any (shs:List Sh) (bl:List BV):bl.any (inShare shs)=A.hit (bl.map fun b=>(b.sh.toNat,b.v)) (shs.map Sh.l):=by
 unfold A.hit
 rw [List.any_map]
 rfl
namespace A
theorem blocked_zero {bl:List (Nat × List Int)} {m:Nat} {i:Int} {sh:List (List Int)}:blocked bl m 0 i sh=hit bl sh:=rfl
theorem blocked_hit {bl:List (Nat × List Int)} {m k:Nat} {i:Int} {sh:List (List Int)} (h:hit bl sh=true):blocked bl m k i sh=true:=by
 cases k with
 | zero=>exact h
 | succ k=>rw [blocked,h];rfl
theorem blocked_go {bl:List (Nat × List Int)} {m k:Nat} {i:Int} {sh:List (List Int)} (h:hit bl sh=false):blocked bl m (k + 1) i sh=((List.range m).drop 0).all fun s=>blocked bl m k (i + 1) (give sh s i):=by
 rw [blocked,h];rfl
theorem all_no {m s:Nat} {p:Nat→Bool} (hs:s < m) (h:p s=false):((List.range m).drop s).all p=false:=by rw [range_drop hs,List.all_cons,h];rfl
theorem all_yes {m s:Nat} {p:Nat→Bool} (hs:s < m) (h:p s=true):((List.range m).drop s).all p=((List.range m).drop (s + 1)).all p:=by rw [range_drop hs,List.all_cons,h];rfl
end A
set_option maxRecDepth 100000 in
theorem wp_app_full {ops:Array Oper} {rest:List Oper} {o:Oper} {a:Act} {w w2:World} {Q:Exit→Act→World→Prop} (hgd:o.guard=none) (s x:Operand)
  (ho:o.op=.call { callee:=.builtin .append,args:=#[s,x],argTypes:=#[48,48] })
  {A:Option Addr} {n:Nat} {l:List Int} (hI:Ints w2 A n l) (hA:A=none→n=0) (hs:a.eval s=.slice A n n) (g:Nat) (p:Int) (hx:a.eval x=.slice (some ⟨g,0,none⟩) 1 1)
  (hw:Below w2.heap.size w2 w) (hg:w.heap[g]? = some (.cells #[.int .i64 p] 3 (0,0))) (hn:n≤1000000)
  (h:∀ B c w',Ints w' (some B) (n + 1) (l ++ [p])→n + 1≤c→Below w.heap.size w w'→w.heap.size≤B.block→wpList Tryz.prog ops Q rest (a.put o.dst (.slice (some B) (n + 1) c)) w') :
  wpList Tryz.prog ops Q (o :: rest) a w:=by
 obtain ⟨i0,hi,hz0,hz1,hz2⟩:=info_parts Tryz.info3
 have hIw:=hI.below hw
 refine wpList_append_grows w hgd s x 48 ho 3 i0 (.int .i64 0) 1 8 Tryz.underlying48 hi hz0 hz1 hz2 rfl (by decide) A n n (intCells l) hs (fun e=>⟨hA e,hA e⟩) (by rw [hI.1];simp [intCells]) ?_ ⟨g,0,none⟩ 1 1 [.int .i64 p] hx rfl ?_ (fun u hu=>by simp at hu;subst hu;rfl) (by omega) (by simp only [maxLen];omega) (by omega) ?_
 ·intro b e j u hu
  have hj:j < n:=by rw [hI.1];have:=(List.getElem?_eq_some_iff.1 hu).1;simpa [intCells] using this
  obtain ⟨ad,y,e',hy,cy⟩:=hIw.at_ hj
  rw [e] at e'
  injection e' with e'
  subst e'
  rw [intCells,List.getElem?_map,hy] at hu
  injection hu with hu
  rw [←hu]
  exact cy
 ·intro j u hu
  rw [add_zero_block]
  exact blk_cell hg j u (by simpa using hu)
 ·intro v' w' hown hgrow
  have hown2:w'.ownsRow w.heap.size 3 1 v' (n + 1) (intCells (l ++ [p])):=by
   rw [intCells_app]
   exact hown
  have hl:n + 1=(l ++ [p]).length:=by rw [List.length_append,hI.1];rfl
  have hb:Below w.heap.size w w':=⟨hgrow.os,hgrow.tape,hgrow.output,hgrow.size,fun k hk=>hgrow.block k hk (fun e=>by cases e)⟩
  obtain ⟨A',c',e',hI'⟩:=own_ints hown2 hl
  obtain ⟨-,⟨e,e0⟩ | ⟨g',cap,cur,e,hb',hh,hnc,-⟩⟩:=hown2
  ·omega
  ·rw [e] at e'
   injection e' with e1 e2 e3
   subst e1 e3
   rw [e]
   exact h _ _ w' hI' hnc hb hb'
structure RowAt (w:World) (g n:Nat) (cur:Array Value) (l:List Sh):Prop where
 blk:w.heap[g]? = some (.cells cur 48 (0,0))
 len:n=l.length
 get:∀ (k:Nat) (s:Sh),l[k]? = some s→cur[k]? = some s.val
theorem RowAt.below {w w':World} {g n:Nat} {cur:Array Value} {l:List Sh} (h:RowAt w g n cur l) (hb:Below w.heap.size w w'):RowAt w' g n cur l:=⟨blk_below hb h.blk,h.len,h.get⟩
theorem RowAt.set {w:World} {g n:Nat} {cur:Array Value} {l:List Sh} (h:RowAt w g n cur l) {s:Nat} (hs:s < n) (u:Sh):RowAt (w.setCell ⟨g,s,none⟩ u.val) g n (cur.setIfInBounds s u.val) (l.set s u):=by
 refine ⟨blk_set h.blk s u.val,by rw [List.length_set];exact h.len,fun k t hk=>?_⟩
 have hl:s < l.length:=by rw [←h.len];exact hs
 have hcs:s < cur.size:=by
  have:=h.get s l[s] (List.getElem?_eq_getElem hl)
  exact (Array.getElem?_eq_some_iff.1 this).1
 rw [List.getElem?_set] at hk
 rw [Array.getElem?_setIfInBounds]
 by_cases e:s=k
 ·subst e
  rw [if_pos rfl,if_pos hl] at hk
  injection hk with hk
  rw [if_pos rfl,if_pos hcs,hk]
 ·rw [if_neg e] at hk
  rw [if_neg e]
  exact h.get k t hk
theorem RowAt.shs {w:World} {g n:Nat} {cur:Array Value} {l:List Sh} (h:RowAt w g n cur l) (hi:∀ s ∈ l,Ints w s.A s.n s.l∧s.n≤s.c∧(s.A=none→s.n=0∧s.c=0)):Shs w (some ⟨g,0,none⟩) n l:=by
 refine ⟨⟨h.len,?_,fun h0=>⟨_,rfl,fun j u hu=>?_⟩⟩,hi⟩
 ·rw [flat_len (fun s=>[Sh.val s]) 1 (fun _=>rfl),←h.len]
 ·rw [add_zero_block]
  have e:(l.flatMap fun s=>[Sh.val s])=l.map Sh.val:=by
   clear hu h hi h0
   induction l with
   | nil=>rfl
   | cons a l ih=>rw [List.flatMap_cons,ih];rfl
  rw [e,List.getElem?_map] at hu
  cases hs:l[j]? with
  | none=>rw [hs] at hu;cases hu
  | some s =>
   rw [hs] at hu
   injection hu with hu
   exact blk_cell h.blk j u (by rw [←hu];exact h.get j s hs)
theorem row_own {w:World} {base n:Nat} {v:Value} {l:List Sh} (h:w.ownsRow base 48 1 v n (l.map Sh.val)) (h0:0 < n):∃ g cap cur,v=.slice (some ⟨g,0,none⟩) n cap∧base≤g∧n≤cap∧RowAt w g n cur l:=by
 obtain ⟨hl,⟨e,e0⟩ | ⟨g,cap,cur,e,hb,hh,hnc,-,-,ht⟩⟩:=h
 ·omega
 ·refine ⟨g,cap,cur,e,hb,hnc,hh,by simpa using hl.symm,fun k s hk=>?_⟩
  have hkl:=(List.getElem?_eq_some_iff.1 hk).1
  have h9:(cur.toList.take (n * 1))[k]? = some s.val:=by rw [ht,List.getElem?_map,hk];rfl
  rw [List.getElem?_take] at h9
  split at h9
  ·simpa using h9
  ·cases h9
set_option maxRecDepth 100000 in
set_option maxHeartbeats 16000000 in
theorem blocked43_any (BA:Option Addr) (bn bc:Nat) (bl:List BV) (n N:Nat) (hN:N≤6) (hn4:n≤4) (hbn:bn≤1000000000) (hok:BOk bl n):∀ (k i:Nat) (E:Option Addr) (c:Nat) (shs:List Sh) (w:World),i + k=N→Blks w BA bn bl→Shs w E n shs→(E=none→n=0∧c=0)→Grown shs i →
  Calls Tryz.prog 89 #[.slice BA bn bc,.slice E n c,.int .i64 i,.int .i64 N] w fun e w'=>e=.returned (.bool (A.blocked (bl.map fun b=>(b.sh.toNat,b.v)) n k i (shs.map Sh.l)))∧Below w.heap.size w w':=by
 intro k
 induction k with
 | zero =>
  intro i E c shs w hi hl hS hE hgr
  have h6:∀ s ∈ shs,s.n≤1000000000:=fun s hs=>by
   obtain ⟨h1,h2,-⟩:=hgr s hs
   obtain ⟨m6,h6⟩:=K.set6 h1 fun y hy=>by have:=h2 y hy;omega
   rw [(hS.2 s hs).1.1];have:=h6.len;omega
  have b0:Below w.heap.size w (w.alloc (.cells #[.slice E n c] 97)):=(Below.refl _ _).alloc (Nat.le_refl _) _
  have CC:=contains72_any w.heap.size E n c shs BA bn bc bl _ (hl.below b0) hbn (heap_alloc_new w _) (hS.below b0) h6 hok
  rw [hit_any] at CC
  have HZ:=Lib.hid (A.blocked_zero (bl:=bl.map fun b=>(b.sh.toNat,b.v)) (m:=n) (i:=(i:Int)) (sh:=shs.map Sh.l))
  obtain ⟨hb,hhb⟩:∃ hb,hb=A.hit (bl.map fun b=>(b.sh.toNat,b.v)) (shs.map Sh.l):=⟨_,rfl⟩
  rw [←hhb] at CC HZ
  have hd:decide ((i:Int)=(N:Int))=true:=by simp;omega
  have hd2:((i:Int) == (N:Int))=true:=by simp;omega
  have hd3:decide (i=N)=true:=by simp;omega
  have hd4:(i == N)=true:=by simp;omega
  have hdi:i=N:=by omega
  clear hhb hi
  go_enter Tryz.func89,Tryz.ntmps89
  go_wp2_with fail
  refine CC.mono ?_
  rintro e w1 ⟨rfl,hb1⟩
  have hb2:=bel b0 hb1
  cases hb
  ·go_wp2_with fail
   go_ret
   exact ⟨by rw [HZ.out];rfl,hb2⟩
  ·go_wp2_with fail
   go_ret
   exact ⟨by rw [HZ.out];rfl,hb2⟩
 | succ k ih =>
  intro i E c shs w hi hl hS hE hgr
  have h6s:∀ s ∈ shs,s.n≤6:=fun s hs=>by
   obtain ⟨h1,h2,-⟩:=hgr s hs
   obtain ⟨m6,h6⟩:=K.set6 h1 fun y hy=>by have:=h2 y hy;omega
   rw [(hS.2 s hs).1.1];exact h6.len
  have h6:∀ s ∈ shs,s.n≤1000000000:=fun s hs=>by have:=h6s s hs;omega
  obtain ⟨w1,hw1⟩:∃ w1:World,w1=w.alloc (.cells #[.slice E n c] 97):=⟨_,rfl⟩
  obtain ⟨G,hG⟩:∃ G,G=w.heap.size:=⟨_,rfl⟩
  have b0:Below w.heap.size w w1:=by rw [hw1];exact (Below.refl _ _).alloc (Nat.le_refl _) _
  have hG1:w1.heap[G]? = some (.cells #[.slice E n c] 97 (0,0)):=by rw [hw1,hG];exact heap_alloc_new _ _
  have CC:=contains72_any G E n c shs BA bn bc bl w1 (hl.below b0) hbn hG1 (hS.below b0) h6 hok
  rw [hit_any] at CC
  obtain ⟨P,hP⟩:∃ P,P=bl.map fun b=>(b.sh.toNat,b.v):=⟨_,rfl⟩
  rw [←hP] at CC ih ⊢
  obtain ⟨R,hR⟩:∃ R,R=A.blocked P n (k + 1) i (shs.map Sh.l):=⟨_,rfl⟩
  have HR:=Lib.hid hR
  have HHT:=Lib.hid (fun h:A.hit P (shs.map Sh.l)=true=>A.blocked_hit (m:=n) (k:=k + 1) (i:=i) h)
  have HGO:=Lib.hid (fun h:A.hit P (shs.map Sh.l)=false=>A.blocked_go (m:=n) (k:=k) (i:=i) h)
  obtain ⟨hb,hhb⟩:∃ hb,hb=A.hit P (shs.map Sh.l):=⟨_,rfl⟩
  rw [←hhb] at CC HHT HGO
  rw [←hR]
  have hd:decide ((i:Int)=(N:Int))=false:=by simp;omega
  have hd2:((i:Int) == (N:Int))=false:=by simp;omega
  have hd3:decide (i=N)=false:=by simp;omega
  have hd4:(i == N)=false:=by simp;omega
  have hiN:i < N:=by omega
  have HHI:=Lib.hid hi
  clear hhb hR hP hi
  go_enter Tryz.func89,Tryz.ntmps89
  go_wp2_with fail
  rw [←hw1,←hG]
  clear hw1 hG
  refine CC.mono ?_
  rintro e w2 ⟨rfl,hb1⟩
  have hb2:=bel b0 hb1
  have hG2:=blk_below hb1 hG1
  clear CC hG1 hb1 b0
  cases hb
  rotate_left
  ·have HRT:=Lib.hid (show R=true from HR.out.trans (HHT.out rfl))
   clear HHT HGO HR
   go_wp2_with fail
   go_ret
   exact ⟨by rw [HRT.out];rfl,hb2⟩
  have HRG:=Lib.hid (show R=_ from HR.out.trans (HGO.out rfl))
  clear HHT HGO HR
  have cG:=blk_cell hG2 0 _ rfl
  go_wp2_with fail
  clear cG hd hd2 hd3 hd4
  go_loopw [19] (fun v19 wr=>∃ s:Nat,v19=.int .i64 s∧s≤n∧Below w2.heap.size w2 wr∧Hid (R=((List.range n).drop s).all fun s=>A.blocked P n k (i + 1) (A.give (shs.map Sh.l) s i))) (fun v19 _=>n - (intOf v19).toNat)
  case atStart=>exact ⟨0,rfl,Nat.zero_le _,Below.refl _ _,HRG.out⟩
  case round =>
   obtain ⟨s,rfl,hs,hbr,hrr⟩:=hrel
   by_cases hlt:s < n
   ·have hbw:=bel hb2 hbr
    obtain ⟨ade,sh,hEe,hsh,⟨hI,hnc,hAn⟩,cs⟩:=(hS.below hbw).at_ hlt
    have hn6:=h6s sh (List.mem_of_getElem? hsh)
    have hGr:=blk_below hbr hG2
    have cG:=blk_cell hGr 0 _ rfl
    have CL:=clone_shs E n c shs wr (hS.below hbw) (by omega) hE
    have HSH:=Lib.hid hsh
    have HEE:=Lib.hid hEe
    have k0:(0:Int)≤(s:Int):=by omega
    have k1:(s:Int) < (n:Int):=by omega
    clear hsh hEe
    go_wp2_with fail
    refine CL.mono ?_
    rintro e w3 ⟨⟨v10,rfl,hown⟩,b3⟩
    obtain ⟨g,cap,cur,rfl,hgb,hncap,hrow⟩:=row_own hown (by omega)
    have hIs3:=hI.below b3
    have hGs:=blk_below b3 hGr
    have cG3:w3.cell? ⟨G,0,none⟩=some (.slice (some ade) n c):=by rw [←HEE.out];exact blk_cell hGs 0 _ rfl
    have cs3:=(b3.cell (cell_lt cs)).trans cs
    have hA0:sh.A=none→sh.n=0:=fun e=>(hAn e).1
    have bl3:Below w3.heap.size w3 (w3.alloc (.cells #[.int .i64 (i:Int)] 3)):=(Below.refl _ _).alloc (Nat.le_refl _) _
    have hn9:sh.n≤1000000:=by omega
    clear CL cG cs hown hI hGr
    go_wp2_with (first
     | (go_at_call 124;refine (clip_any sh.A sh.n sh.c _ hnc hAn).mono ?_;rintro e w9 ⟨rfl,rfl⟩)
     | (at_builtin;refine wp_app_full rfl (.tmp 30) (.tmp 32) rfl hIs3 hA0 rfl w3.heap.size (i:Int) rfl bl3 (heap_alloc_new w3 _) hn9 ?_;intro B c9 w9 hI9 hc9 hb9 hB9;have hrow9:=hrow.below (bel bl3 hb9);have cg:=blk_cell hrow9.blk s _ (hrow9.get s sh HSH.out);have fg:=blk_free hrow9.blk)
     | fail)
    obtain ⟨u,hu⟩:∃ u:Sh,u=⟨some B,sh.n + 1,c9,sh.l ++ [(i:Int)]⟩:=⟨_,rfl⟩
    obtain ⟨wa,hwa⟩:∃ wa:World,wa=w9.setCell ⟨g,s,none⟩ (.slice (some B) (sh.n + 1) c9):=⟨_,rfl⟩
    have hwg:w2.heap.size≤g:=Nat.le_trans hbr.size hgb
    have hwa2:Below w2.heap.size w2 wa:=by rw [hwa];exact (bel (bel hbr b3) (bel bl3 hb9)).setCell hwg _
    have hra:RowAt wa g n (cur.setIfInBounds s u.val) (shs.set s u):=by rw [hwa];have h:=hrow9.set hlt u;rw [hu] at h ⊢;exact h
    have hwS:∀ t ∈ shs,Ints wa t.A t.n t.l∧t.n≤t.c∧(t.A=none→t.n=0∧t.c=0):=fun t ht=>⟨(hS.2 t ht).1.below (bel hb2 hwa2),(hS.2 t ht).2⟩
    have hIu:Ints wa (some B) (sh.n + 1) (sh.l ++ [(i:Int)]):=by
     rw [hwa]
     refine hI9.set1 _ fun h0 ad e=>?_
     injection e with e
     rw [←e]
     have h1:=lt_of_block hrow.blk
     have h2:=bl3.size
     omega
    have hsa:Shs wa (some ⟨g,0,none⟩) n (shs.set s u):=hra.shs fun t ht=>by
     rcases List.mem_or_eq_of_mem_set ht with ht | ht
     ·exact hwS t ht
     ·rw [ht,hu];exact ⟨hIu,hc9,fun e=>(nomatch e)⟩
    have hgu:Grown (shs.set s u) (i + 1):=by rw [hu];exact hgr.give HSH.out B _ _
    obtain ⟨ii,hii⟩:∃ ii,ii=i + 1:=⟨_,rfl⟩
    have hiiN:ii≤N:=by omega
    have CI:=ih ii (some ⟨g,0,none⟩) cap (shs.set s u) wa (by have:=HHI.out;omega) (hl.below (bel hb2 hwa2)) hsa (fun e=>(nomatch e)) (by rw [hii];exact hgu)
    have hgv:(shs.set s u).map Sh.l=A.give (shs.map Sh.l) s i:=by
     unfold A.give
     rw [List.getElem?_map,HSH.out,List.map_set,hu]
     rfl
    rw [hgv,show (ii:Int)=(i:Int) + 1 by omega] at CI
    obtain ⟨r9,hr9⟩:∃ r9,r9=A.blocked P n k ((i:Int) + 1) (A.give (shs.map Sh.l) s i):=⟨_,rfl⟩
    rw [←hr9] at CI
    have HR9:=Lib.hid hr9
    rw [←hwa]
    clear hr9 hgv hii hgu hsa hIu hwS hra hwa hrow9 cg fg hI9 hb9 hB9 hrow hIs3 hGs cG3 cs3 bl3 hu
    refine CI.mono ?_
    rintro e wc ⟨rfl,hbc⟩
    have hbn:=bel hwa2 hbc
    clear CI
    cases r9
    ·have HE:=Lib.hid (show R=false by rw [hrr.out];exact A.all_no hlt HR9.out.symm)
     clear hrr
     go_wp2_with fail
     go_ret
     exact ⟨by rw [HE.out];rfl,bel hb2 hbn⟩
    ·have HNX:=Lib.hid (hrr.out.trans (A.all_yes hlt HR9.out.symm))
     clear hrr
     go_wp2_with fail
     go_roundw
     case rel=>(go_light;exact ⟨s + 1,by go_num,hlt,hbn,HNX.out⟩)
     case measure=>(go_light;simp [intOf];omega)
   ·have HE:=Lib.hid (show R=true by rw [hrr.out,List.drop_eq_nil_of_le (by rw [List.length_range];omega)];rfl)
    clear hrr
    go_wp2_with fail
    go_ret
    exact ⟨by rw [HE.out];rfl,bel hb2 hbr⟩
def BV.pr (b:BV):Int × List Int × List Lb:=(b.sh,b.v,b.lb)
def FewB (bn:Nat) (bl:List BV):Prop:=bn≤1000000000∧∀ b ∈ bl,b.vn≤b.vc∧b.vn≤1000000000∧b.ln≤1000000000
namespace K
section
variable {nd : Int} {l : List Ro} {ss : List S} {r : List Q} {bl : List (Int × List Int × List Lb)}
theorem refutes_err (h:pcheck nd l ss r ≠ 0):refutes nd l ss r bl=false:=by simp [refutes,h]
theorem refutes_many (h:¬ bl.length≤200):refutes nd l ss r bl=false:=by simp [refutes,h]
theorem refutes_go (h:pcheck nd l ss r=0) (h2:bl.length≤200):refutes nd l ss r bl=((bl.drop 0).all (okBlock nd l ss r) && A.blocked (bl.map fun b=>(b.1.toNat,b.2.1)) ss.length r.length 0 (List.replicate ss.length [])):=by
 unfold refutes
 rw [h,decide_eq_true h2]
 rfl
theorem allb_drop {α:Type} {p:α→Bool} {bl:List α} {k:Nat} {b:α} (h:bl[k]? = some b):(bl.drop k).all p=(p b && (bl.drop (k + 1)).all p):=by rw [drop_of_some h,List.all_cons]
theorem okb_no {b:Int × List Int × List Lb} (h:b.1 < 0∨(ss.length:Int)≤b.1):okBlock nd l ss r b=false:=by
 unfold okBlock
 by_cases hn:b.1 < 0
 ·rw [if_pos hn]
 ·rw [if_neg hn,List.getElem?_eq_none (by omega)]
theorem okb_at {b:Int × List Int × List Lb} {x:S} (h0:0≤b.1) (hx:ss[b.1.toNat]? = some x):okBlock nd l ss r b=blocks nd l x r b.2.1 b.2.2:=by
 unfold okBlock
 rw [if_neg (by omega),hx]
end
end K
set_option maxRecDepth 100000 in
set_option maxHeartbeats 16000000 in
theorem refutes32_any (x:Cs) (BA:Option Addr) (bn bc:Nat) (bl:List BV) (w:World) (hx:CsAt w x) (hB:Blks w BA bn bl) (hF:FewB bn bl) :
  Calls Tryz.prog 28 #[.agg #[.int .i64 x.nd,.slice x.A x.n x.c],.slice x.SA x.sn x.sc,.slice x.B x.m x.d,.slice BA bn bc] w fun e w'=>e=.returned (.bool (K.refutes x.nd x.l x.ss x.r (bl.map BV.pr)))∧Below w.heap.size w w':=by
 have hN:=Net.new w x.nd x.A x.n x.c
 have p0:=hN.c0
 have p1:=hN.c1
 have b0:Below w.heap.size w (w.alloc (.cells #[.int .i64 x.nd,.slice x.A x.n x.c] 24)):=(Below.refl _ _).alloc (Nat.le_refl _) _
 obtain ⟨R,hR⟩:∃ R,R=K.refutes x.nd x.l x.ss x.r (bl.map BV.pr):=⟨_,rfl⟩
 have HR:=Lib.hid hR
 rw [←hR]
 clear hR
 have HBN:=Lib.hid hB.1.1
 obtain ⟨hbn9,hbs⟩:=hF
 go_enter Tryz.func28,Tryz.ntmps28
 go_wp2_with fail
 refine (check32_any x _ (hx.below b0)).mono ?_
 obtain ⟨ce,hce⟩:∃ ce,ce=K.pcheck x.nd x.l x.ss x.r:=⟨_,rfl⟩
 rw [←hce]
 rintro e w1 ⟨rfl,b1⟩
 have hN1:=hN.below b1
 have hb1:=bel b0 b1
 clear p0 p1 b0 b1 hN
 by_cases hz:ce=0
 rotate_left
 ·have HX:=Lib.hid (show R=false by rw [HR.out];exact K.refutes_err (by rw [←hce];exact hz))
  have hd:(ce != 0)=true:=by simp [bne,hz]
  clear hce
  go_wp2_with fail
  go_ret
  exact ⟨by rw [HX.out];rfl,hb1⟩
 subst hz
 have HOK:=Lib.hid hce.symm
 clear hce
 have HSN:=Lib.hid hx.shifts.1.1
 have HRN:=Lib.hid hx.reqs.1
 have hm6:x.m≤6:=by rw [HRN.out];exact (K.pcheck_ok HOK.out).2.2.2.2
 have hsn4:x.sn≤4:=by rw [HSN.out];exact (K.pcheck_ok HOK.out).2.1
 by_cases hmany:bn≤200
 rotate_left
 ·have hd1:decide ((200:Int) < (bn:Int))=true:=by simp;omega
  have hd2:decide (200 < bn)=true:=by simp;omega
  have HX:=Lib.hid (show R=false by rw [HR.out];exact K.refutes_many (by rw [List.length_map,←HBN.out];exact hmany))
  go_wp2_with fail
  go_ret
  exact ⟨by rw [HX.out];rfl,hb1⟩
 have hd1:decide ((200:Int) < (bn:Int))=false:=by simp;omega
 have hd2:decide (200 < bn)=false:=by simp;omega
 obtain ⟨P,hP⟩:∃ P,P=bl.map fun b=>(b.sh.toNat,b.v):=⟨_,rfl⟩
 have hPP:((bl.map BV.pr).map fun b=>(b.1.toNat,b.2.1))=P:=by rw [hP,List.map_map];rfl
 have HGO:=Lib.hid (show R=(((bl.map BV.pr).drop 0).all (K.okBlock x.nd x.l x.ss x.r) && A.blocked P x.sn x.m 0 (List.replicate x.sn [])) by
  rw [HR.out,K.refutes_go HOK.out (by rw [List.length_map,←HBN.out];exact hmany),hPP,HSN.out,HRN.out])
 have HP:=Lib.hid hP
 obtain ⟨L,hL⟩:∃ L,L=bl.map BV.pr:=⟨_,rfl⟩
 rw [←hL] at HGO
 have HL:=Lib.hid hL
 clear hP hPP hL
 go_wp2_with fail
 clear hd1 hd2
 go_loopw [23] (fun v23 wr=>∃ k:Nat,v23=.int .i64 k∧k≤bn∧Below w1.heap.size w1 wr∧Hid (R=((L.drop k).all (K.okBlock x.nd x.l x.ss x.r) && A.blocked P x.sn x.m 0 (List.replicate x.sn [])))∧Hid (∀ (j:Nat) (b:BV),j < k→bl[j]? = some b→0≤b.sh∧b.sh < (x.sn:Int))) (fun v23 _=>bn - (intOf v23).toNat)
 case atStart=>exact ⟨0,rfl,Nat.zero_le _,Below.refl _ _,HGO.out,fun j b h=>absurd h (by omega)⟩
 case round =>
  obtain ⟨k,rfl,hk,hbr,hrr,hrg⟩:=hrel
  by_cases hlt:k < bn
  ·obtain ⟨ad,y,hBA,hy,⟨hI1,hI2⟩,c0,c1,c2⟩:=(hB.below (bel hb1 hbr)).at_ hlt
   obtain ⟨hv1,hv2,hv3⟩:=hbs y (List.mem_of_getElem? hy)
   have hLk:L[k]? = some y.pr:=by rw [HL.out,List.getElem?_map,hy];rfl
   have HDR:=Lib.hid (show R=((K.okBlock x.nd x.l x.ss x.r y.pr && (L.drop (k + 1)).all (K.okBlock x.nd x.l x.ss x.r)) && A.blocked P x.sn x.m 0 (List.replicate x.sn [])) by rw [hrr.out,K.allb_drop hLk])
   have HY:=Lib.hid hy
   have k0:(0:Int)≤(k:Int):=by omega
   have k1:(k:Int) < (bn:Int):=by omega
   obtain ⟨g,hg⟩:∃ g,g=wr.heap.size:=⟨_,rfl⟩
   obtain ⟨w3,hw3⟩:∃ w3:World,w3=wr.alloc (.cells #[.int .i64 y.sh,.slice y.V y.vn y.vc,.slice y.LA y.ln y.lc] 90):=⟨_,rfl⟩
   have b3:Below wr.heap.size wr w3:=by rw [hw3];exact (Below.refl _ _).alloc (Nat.le_refl _) _
   have hB3:w3.heap[g]? = some (.cells #[.int .i64 y.sh,.slice y.V y.vn y.vc,.slice y.LA y.ln y.lc] 90 (0,0)):=by rw [hw3,hg];exact heap_alloc_new _ _
   have hb3:=bel hbr b3
   have hI13:=hI1.below b3
   have hI23:=Lst.below hI2 b3
   have hN3:=hN1.below hb3
   clear hy hLk hrr hI1 hI2 hbr
   by_cases hbad:y.sh < 0∨(x.sn:Int)≤y.sh
   ·have HX:=Lib.hid (show R=false by rw [HDR.out,K.okb_no (b:=y.pr) (by rw [←HSN.out];exact hbad)];rfl)
    rw [hBA]
    go_upto_region 6 with fail
    rw [←hw3,←hg]
    clear hw3 hg c0 c1 c2 hBA b3
    have t0:=blk_cell hB3 0 _ rfl
    have t1:=blk_cell hB3 1 _ rfl
    have t2:=blk_cell hB3 2 _ rfl
    by_cases hneg:y.sh < 0
    ·have hd1:decide (y.sh < 0)=true:=decide_eq_true hneg
     clear hbad
     go_quiet (fail)
     go_wp2_with fail
     go_ret
     exact ⟨by rw [HX.out];rfl,bel hb1 (below_drewN hb3 _)⟩
    ·have hd1:decide (y.sh < 0)=false:=decide_eq_false hneg
     have hd2:decide ((x.sn:Int)≤y.sh)=true:=decide_eq_true (hbad.resolve_left hneg)
     clear hbad
     go_quiet (fail)
     go_wp2_with fail
     go_ret
     exact ⟨by rw [HX.out];rfl,bel hb1 (below_drewN hb3 _)⟩
   obtain ⟨hneg,hbig⟩:=not_or.1 hbad
   obtain ⟨s,hs⟩:∃ s:Nat,y.sh=(s:Int):=⟨y.sh.toNat,by omega⟩
   have hsn:s < x.sn:=by omega
   obtain ⟨ads,sS,hSA,hsS,hIS,s0,s1,s2,s3,s4,s5⟩:=((hx.below hb1).below hb3).shifts.at_ hsn
   have HOB:=Lib.hid (K.okb_at (nd:=x.nd) (l:=x.l) (r:=x.r) (b:=y.pr) (show 0≤y.sh by omega) (show x.ss[y.sh.toNat]? = some sS by rw [hs];exact hsS))
   have hsm:=List.mem_of_getElem? hsS
   have HRG:=Lib.hid (show ∀ (j:Nat) (b:BV),j < k + 1→bl[j]? = some b→0≤b.sh∧b.sh < (x.sn:Int) from fun j b hj hb=>by
    by_cases e:j=k
    ·rw [e,HY.out] at hb
     injection hb with hb
     rw [←hb,hs]
     omega
    ·exact hrg.out j b (by omega) hb)
   have HSS:=Lib.hid hs
   clear hs hsS hbad hneg hbig hrg
   rw [hBA,hSA]
   go_upto_region 6 with fail
   rw [←hw3,←hg]
   clear hw3 hg c0 c1 c2 hBA hSA b3
   have q0:=Beh.cell (blk_cell hB3 0 _ rfl)
   have q1:=Beh.cell (blk_cell hB3 1 _ rfl)
   have q2:=Beh.cell (blk_cell hB3 2 _ rfl)
   have p0:=Beh.cell hN3.c0
   have p1:=Beh.cell hN3.c1
   have r0:=Beh.cell s0
   have r1:=Beh.cell s1
   have r2:=Beh.cell s2
   have r3:=Beh.cell s3
   have r4:=Beh.cell s4
   have r5:=Beh.cell s5
   have hxw3:=(hx.below hb1).below hb3
   obtain ⟨cb,hcb⟩:∃ cb,cb=K.blocks x.nd x.l sS x.r y.v y.lb:=⟨_,rfl⟩
   have CT:∀ i:Beh w3,Calls Tryz.prog 88 #[.agg #[.int .i64 x.nd,.slice x.A x.n x.c],.agg #[.int .i64 sS.day,.int .i64 sS.depot,.int .i64 sS.start,.int .i64 sS.end_,.int .i64 sS.tare,.slice sS.A sS.n sS.c],.slice x.B x.m x.d,.agg #[.int .i64 y.sh,.slice y.V y.vn y.vc,.slice y.LA y.ln y.lc]] i.val fun e w'=>e=.returned (.bool cb)∧Below i.val.heap.size i.val w':=fun i=>by
    rw [hcb]
    exact blocks_any (x.one sS) y.sh y.V y.vn y.vc y.v y.LA y.ln y.lc y.lb i.val ((hxw3.below i.property).case hsm) (hI13.below i.property) hv1 hv2 (Lst.below hI23 i.property) hv3
   have HCB:=Lib.hid (show K.okBlock x.nd x.l x.ss x.r y.pr=cb by rw [HOB.out,hcb];rfl)
   have ks0:(0:Int)≤(s:Int):=by omega
   have ks1:(s:Int) < (x.sn:Int):=by omega
   have kd1:decide ((s:Int) < 0)=false:=by simp
   have kd2:decide ((x.sn:Int)≤(s:Int))=false:=by simp;omega
   have kd3:decide (x.sn≤s)=false:=by simp;omega
   rw [HSS.out] at q0 CT
   clear hcb HOB hN3 hB3 s0 s1 s2 s3 s4 s5 hxw3 hIS hsm
   refine reg_beh (by kernel_rfl) (by kernel_rfl) ?_
   repeat (go_big_quiet_step ((go_at_call 88;exact Beh.calls (CT _))))
   refine wpQuiet_nil ?_
   rintro w4 ⟨⟨w4,b4⟩,rfl⟩
   have hb4:=bel hb3 b4
   clear q0 q1 q2 p0 p1 r0 r1 r2 r3 r4 r5 CT hI13 hI23 b4 hb3
   cases cb
   ·have HX:=Lib.hid (show R=false by rw [HDR.out,HCB.out];rfl)
    go_wp2_with fail
    go_ret
    exact ⟨by rw [HX.out];rfl,bel hb1 hb4⟩
   ·have HNX:=Lib.hid (show R=((L.drop (k + 1)).all (K.okBlock x.nd x.l x.ss x.r) && A.blocked P x.sn x.m 0 (List.replicate x.sn [])) by rw [HDR.out,HCB.out,Bool.true_and])
    go_wp2_with fail
    go_roundw
    case rel=>(go_light;exact ⟨k + 1,by go_num,hlt,hb4,HNX.out,HRG.out⟩)
    case measure=>(go_light;simp [intOf];omega)
  ·have HE:=Lib.hid (show R=A.blocked P x.sn x.m 0 (List.replicate x.sn []) by rw [hrr.out,List.drop_eq_nil_of_le (by rw [HL.out,List.length_map,←HBN.out];omega)];rfl)
   have hok:BOk bl x.sn:=fun b hb=>by
    obtain ⟨j,hj,e⟩:=List.getElem_of_mem hb
    exact ⟨hrg.out j b (by have:=HBN.out;omega) (by rw [List.getElem?_eq_getElem hj,e]),(hbs b hb).2.1⟩
   have hmk:=fun w'=>make_rows x.sn (by omega) w'
   obtain ⟨w5,hw5⟩:∃ w5:World,w5=wr.alloc (.cells (List.replicate x.sn (Value.slice none 0 0)).toArray 48):=⟨_,rfl⟩
   have b5:Below wr.heap.size wr w5:=by rw [hw5];exact (Below.refl _ _).alloc (Nat.le_refl _) _
   have hrow:RowAt w5 wr.heap.size x.sn (List.replicate x.sn (Value.slice none 0 0)).toArray (List.replicate x.sn ⟨none,0,0,[]⟩):=by
    refine ⟨by rw [hw5];exact heap_alloc_new _ _,by simp,fun j t ht=>?_⟩
    have hm:=List.eq_of_mem_replicate (List.mem_of_getElem? ht)
    have hj:=(List.getElem?_eq_some_iff.1 ht).1
    rw [List.length_replicate] at hj
    rw [hm]
    simp [hj,Sh.val]
   have hshs:=hrow.shs fun t ht=>by rw [List.eq_of_mem_replicate ht];exact ⟨ints_nil _,Nat.le_refl _,fun _=>⟨rfl,rfl⟩⟩
   have CB:=blocked43_any BA bn bc bl x.sn x.m hm6 hsn4 hbn9 hok x.m 0 (some ⟨wr.heap.size,0,none⟩) x.sn _ w5 (by omega) (hB.below (bel (bel hb1 hbr) b5)) hshs (fun e=>(nomatch e)) (fun t ht=>by rw [List.eq_of_mem_replicate ht];exact ⟨List.Pairwise.nil,fun y hy=>(by cases hy),fun _=>⟨rfl,rfl⟩⟩)
   rw [show (List.replicate x.sn (⟨none,0,0,[]⟩:Sh)).map Sh.l=List.replicate x.sn [] by rw [List.map_replicate],←HP.out,show ((0:Nat):Int)=0 from rfl,←HE.out] at CB
   clear hrr hrg hok hrow hshs
   go_wp2_with fail
   rw [hw5] at CB b5
   refine CB.mono ?_
   rintro e w6 ⟨rfl,b6⟩
   go_wp2_with fail
   go_ret
   exact ⟨rfl,bel hb1 (bel (bel hbr b5) b6)⟩
end Go.Proofs.YtippdjmpkafifaaGreat
