import Derived.Test.YtippdjmpkafifaaGreatCV6
import Derived.Test.YtippdjmpkafifaaGreatCV5
import Derived.Test.YtippdjmpkafifaaGreatCV4
namespace Go.Proofs.YtippdjmpkafifaaGreat
open Go.RowKit
def RetTab (w w':World) (mb:Nat) (p:PS) (N:Nat) (rows:List (List Int)) (e:Ending):Prop :=
 ∃ go gs,e=.returned (.slice (some ⟨go,0,none⟩) N N)∧LTab w mb go p N gs rows w'
set_option maxRecDepth 100000 in
set_option maxHeartbeats 16000000 in
theorem labels_any (b mb:Nat) (p:PS) (N:Nat) (w:World) {X:Nat→Prop} (hp:PAt w b mb p X) (hN:N=2 ^ p.n) :
  Calls Tryz.prog 129 #[.pointer (some ⟨b,0,none⟩)] w fun e w'=>RetTab w w' mb p N (K.table p.x.nd p.x.l p.x.s p.x.r p.l N) e:=by
 obtain ⟨c0,c1,c2,c3,c4,c5,c6,c7,c8,c9,c10⟩:=hp.blk.cells
 obtain ⟨hne,hck,hdp,hrq,hl6,hgo⟩:=K.ok31_parts hp.ok
 have hset:=hp.set
 have HLN:=Lib.hid hset.1
 have hn6:p.n≤6:=by rw [hset.1];exact hl6
 have hN64:N≤64:=by rw [hN];exact Nat.pow_le_pow_right (by omega) hn6
 have hw1:IntKind.i64.wrap ((2:Int) ^ p.n)=(N:Int):=by rw [wrap_pow (by omega),hN];simp
 have hw2:wrap64 ((2:Int) ^ p.n)=(N:Int):=by rw [←IntWalk.i64_left];exact hw1
 have hmk:=fun w'=>make_rows N (by omega) w'
 have hmb:=hp.memo.lt
 have HN:=Lib.hid hN
 obtain ⟨go,hgoE⟩:∃ go,go=w.heap.size:=⟨_,rfl⟩
 have hsrv:∀ i ∈ p.l,0≤(K.req p.x.r i).service:=fun i hi=>by
  obtain ⟨k,hk⟩:=List.mem_iff_getElem?.1 hi
  have hkn:k < p.n:=by rw [hset.1];exact (List.getElem?_eq_some_iff.1 hk).1
  obtain ⟨j,q,hel,-,hse,-⟩:=hp.elem hkn
  have h1:=hel.set
  rw [hk] at h1
  injection h1 with h1
  rw [h1,K.req_get hel.req]
  exact hse.1
 have HSRV:=Lib.hid hsrv
 have hrel0:LTab w mb go p N [] [] (w.alloc (.cells (List.replicate N (Value.slice none 0 0)).toArray 48)):=by
  have hb:Below w.heap.size w (w.alloc (.cells (List.replicate N (Value.slice none 0 0)).toArray 48)):=(Below.refl _ _).alloc (Nat.le_refl _) _
  exact ⟨grow_below (grow_refl w _) hb,(hp.memo.more (Y:=fun g=>g=go∨g ∈ []) (fun g hg hy=>by simp at hy;omega)).below hb,by rw [hgoE];exact heap_alloc_new _ _,rfl,fun m g row h1 _=>by simp at h1,fun g hg=>by simp at hg,by omega⟩
 have HGO:=Lib.hid hgoE
 clear hne hck hdp hrq hl6 hgo hsrv hN hgoE
 go_enter Tryz.func129,Tryz.ntmps129
 go_wp2_with fail
 rw [←HGO.out]
 go_loopw [17] (fun v17 wr=>∃ (M:Nat) (gs:List Nat),v17=.int .i64 M∧M≤N∧LTab w mb go p N gs (K.table p.x.nd p.x.l p.x.s p.x.r p.l M) wr) (fun v17 _=>N - (intOf v17).toNat)
 case atStart=>exact ⟨0,[],rfl,by omega,hrel0⟩
 case round =>
  clear hrel0 c0 c1 c2 c3 c4 c5 c6 c7 c8 c9 c10 hmk hw1 hw2
  obtain ⟨M,gs,rfl,hM,hT⟩:=hrel
  have hgl:gs.length=M:=by rw [hT.len,K.table_len]
  by_cases hlt:M < N
  ·have HGL:=Lib.hid hgl
   have k0:(0:Int)≤(M:Int):=by omega
   have k1:(M:Int) < (N:Int):=by omega
   have ha:Below wr.heap.size wr (wr.alloc (.cells #[.int .i64 (-1)] 3)):=(Below.refl _ _).alloc (Nat.le_refl _) _
   have hsz:=ha.size
   clear hgl
   go_wp2_with fail
   refine (repeat_any wr.heap.size p.n hn6 _ (heap_alloc_new wr (.cells #[.int .i64 (-1)] 3))).mono ?_
   rintro e w2 ⟨⟨g1,rfl,hg1,hI1⟩,hb2⟩
   have hbw:=bel ha hb2
   have hT2:=hT.below hbw
   have f1:w2.cell? ⟨go,M,none⟩=some (.slice none 0 0):=by
    have h9:=tab_next (n:=p.n) (N:=N) (gs:=gs) (by rw [HGL.out];exact hlt)
    rw [HGL.out] at h9
    exact blk_cell hT2.outb M _ (by simpa using h9)
   have f2:=blk_free hT2.outb M
   have hT3:=hT.push hbw (Nat.le_trans hsz hg1) hI1 (by rw [HGL.out];exact hlt) hmb
   rw [HGL.out] at hT3
   have hgne:g1 ∉ gs:=fun hg=>by have:=hT.lt g1 (.inr hg);omega
   obtain ⟨row,hrow⟩:∃ row,row=K.rowOf p.x.nd p.x.l p.x.s p.x.r p.l (K.table p.x.nd p.x.l p.x.s p.x.r p.l M) M:=⟨_,rfl⟩
   have HROW:=Lib.hid hrow
   have hrl:row.length=p.n:=by rw [hrow,K.rowOf_len,HLN.out]
   have HRL:=Lib.hid hrl
   have hT3:LTab w mb go p N (gs ++ [g1]) (K.table p.x.nd p.x.l p.x.s p.x.r p.l M ++ [K.upto row 0]) (w2.setCell ⟨go,M,none⟩ (.slice (some ⟨g1,0,none⟩) p.n p.n)):=by rw [K.upto_zero,hrl];exact hT3
   clear hrow hrl hT2 hI1 ha hsz hg1
   go_wp2_with fail
   clear f1 f2
   obtain ⟨w3,hw3⟩:∃ w3,w3=w2.setCell ⟨go,M,none⟩ (.slice (some ⟨g1,0,none⟩) p.n p.n):=⟨_,rfl⟩
   rw [←hw3] at hT3 ⊢
   clear hw3
   go_loopw [27] (fun v27 wr=>∃ i:Nat,v27=.int .i64 i∧i≤p.n∧LTab w mb go p N (gs ++ [g1]) (K.table p.x.nd p.x.l p.x.s p.x.r p.l M ++ [K.upto row i]) wr) (fun v27 _=>p.n - (intOf v27).toNat)
   case atStart=>exact ⟨0,rfl,by omega,hT3⟩
   case round =>
    clear hT3
    obtain ⟨i,rfl,hi,hTi⟩:=hrel
    by_cases hlti:i < p.n
    ·obtain ⟨j,q,hel,hno,hse,-⟩:=hp.elem hlti
     have k2:(0:Int)≤(i:Int):=by omega
     have k3:(i:Int) < (p.n:Int):=by omega
     have hri:=K.rowOf_at (nd:=p.x.nd) (l:=p.x.l) (s:=p.x.s) (r:=p.x.r) (t:=K.table p.x.nd p.x.l p.x.s p.x.r p.l M) (m:=M) hel.set
     rw [←HROW.out,K.req_get hel.req] at hri
     cases hbit:M.testBit i
     ·have hb1:bits BinOp.and IntKind.i64 ((M:Int) / 2 ^ i) 1=0:=by rw [bit_at (by omega) (by omega),hbit];rfl
      rw [hbit] at hri
      have HU:=Lib.hid (show K.upto row i=K.upto row (i + 1) from K.upto_skip (by simpa using hri))
      clear hbit hri
      go_wp2_with fail
      go_roundw
      case rel=>exact ⟨i + 1,by go_num,by omega,by rw [←HU.out];exact hTi⟩
      case measure=>simp [intOf];omega
     ·have hb1:bits BinOp.and IntKind.i64 ((M:Int) / 2 ^ i) 1=1:=by rw [bit_at (by omega) (by omega),hbit];rfl
      rw [hbit,if_pos rfl] at hri
      obtain ⟨hre,hrb⟩:=bit_rest (by omega) (by omega) hbit
      have hpw:=Nat.two_pow_pos i
      obtain ⟨rest,hrest⟩:∃ rest,rest=M - 2 ^ i:=⟨_,rfl⟩
      rw [←hrest] at hri hre hrb
      have hrM:rest < M:=by omega
      obtain ⟨rr,hrr⟩:∃ rr,(K.table p.x.nd p.x.l p.x.s p.x.r p.l M)[rest]? = some rr:=⟨_,K.table_at hrM⟩
      have hrrE:rr=K.rowOf p.x.nd p.x.l p.x.s p.x.r p.l (K.table p.x.nd p.x.l p.x.s p.x.r p.l rest) rest:=by
       have h9:=K.table_at (nd:=p.x.nd) (l:=p.x.l) (s:=p.x.s) (r:=p.x.r) (v:=p.l) hrM
       rw [hrr] at h9
       injection h9
      rw [hrr,Option.getD_some] at hri
      obtain ⟨g0,hg0⟩:∃ g0,gs[rest]? = some g0:=⟨_,List.getElem?_eq_getElem (by rw [HGL.out];exact hrM)⟩
      have hrrl:rr.length=p.l.length:=by rw [hrrE,K.rowOf_len]
      have hrrb:∀ t ∈ rr,-1≤t∧t≤1000000:=by rw [hrrE];exact K.rowOf_bd HSRV.out
      obtain ⟨x,hx⟩:∃ x,x=K.label p.x.nd p.x.l p.x.s p.x.r p.l rr rest i q:=⟨_,rfl⟩
      rw [←hx] at hri
      have HU:=Lib.hid (K.upto_next hri)
      have hTd:=hTi.below (w':=wr.drew) (Below.refl _ _).drew
      have hpd:=hTd.pat hp
      have hg0':(gs ++ [g1])[rest]? = some g0:=by rw [List.getElem?_append_left (by rw [HGL.out];exact hrM)];exact hg0
      have hc0:wr.drew.cell? ⟨go,rest,none⟩=some (.slice (some ⟨g0,0,none⟩) p.n p.n):=blk_cell hTd.outb rest _ (by simpa using tab_at (n:=p.n) (N:=N) hg0')
      have hI0:Ints wr.drew (some ⟨g0,0,none⟩) p.n rr:=by
       have h9:=(hTd.row rest g0 rr hg0' (by rw [List.getElem?_append_left (by rw [K.table_len];exact hrM)];exact hrr)).ints
       rw [hrrl,←HLN.out] at h9
       exact h9
      have hgM:(gs ++ [g1])[M]? = some g1:=by rw [List.getElem?_append_right (by rw [HGL.out];omega),HGL.out,Nat.sub_self];rfl
      have hSc:∀ w' rows,LTab w mb go p N (gs ++ [g1]) rows w'→w'.cell? ⟨go,M,none⟩=some (.slice (some ⟨g1,0,none⟩) p.n p.n):=fun w' rows h=>blk_cell h.outb M _ (by simpa using tab_at (n:=p.n) (N:=N) hgM)
      have S0:=hSc _ _ hTi
      have S0d:=hSc _ _ hTd
      have CL:=label_any b mb p go N N M rest i j q rr (some ⟨g0,0,none⟩) p.n p.n wr.drew hpd hTd.lt hel hno hse (by omega) hbit hre hrb hc0 (by omega) hI0 hrrl hrrb
      rw [←hx] at CL
      have HI5:=Lib.hid (fun (w5:World) (h5:LTab w mb go p N (gs ++ [g1]) (K.table p.x.nd p.x.l p.x.s p.x.r p.l M ++ [K.upto row i]) w5)=>h5.row M g1 (K.upto row i) hgM (by rw [List.getElem?_append_right (by rw [K.table_len];omega),K.table_len,Nat.sub_self];rfl))
      have hil:i < (K.upto row i).length:=by rw [K.upto_len (by rw [HRL.out];omega),HRL.out];exact hlti
      obtain ⟨y,hy⟩:∃ y,(K.upto row i)[i]? = some y:=⟨_,List.getElem?_eq_getElem hil⟩
      have HYI:=Lib.hid hy
      clear hy hil
      clear hbit hrr hrrE hx hri hrest hg0 hg0' hgM hc0 hI0 hre hrb
      go_wp2_with fail
      go_region_held3 (fun w'=>w'.cell? ⟨go,M,none⟩=some (.slice (some ⟨g1,0,none⟩) p.n p.n))
       (first | assumption | exact S0 | exact S0d)
       (first
        | (go_at_call 177;refine CL.mono ?_;rintro e w5 ⟨rfl,hW5⟩;have hT5:=hTd.went hW5;have S5:=hSc _ _ hT5;have f1:=(HI5.out w5 hT5).cell HYI.out;have f2:=(HI5.out w5 hT5).free i;have hT6:=hT5.store (i:=i) x hgne hmb;have S6:=hSc _ _ hT6)
        | fail)
      rw [HU.out] at hT6
      clear S0 S0d S5 S6 f1 f2 hT5 hTd hTi CL hSc hpd
      go_wp2_with fail
      go_roundw
      case rel=>exact ⟨i + 1,by go_num,by omega,hT6⟩
      case measure=>simp [intOf];omega
    ·have hpi:i=p.n:=by omega
     have hT9:LTab w mb go p N (gs ++ [g1]) (K.table p.x.nd p.x.l p.x.s p.x.r p.l (M + 1)) wr:=by
      rw [hpi,←HRL.out,K.upto_full] at hTi
      rw [K.table,←HROW.out]
      exact hTi
     clear hTi hpi
     go_wp2_with fail
     go_roundw
     case rel=>exact ⟨M + 1,gs ++ [g1],by go_num,by omega,hT9⟩
     case measure=>simp [intOf];omega
  ·have HMN:=Lib.hid (show M=N by omega)
   rw [HMN.out] at hT
   go_wp2_with fail
   go_ret
   exact ⟨go,gs,rfl,hT⟩
structure Lb where
 set:Int
 last:Int
 time:Int
def labCells (x:Lb):List Value:=[.int .i64 x.set,.int .i64 x.last,.int .i64 x.time]
abbrev Labs (w:World) (A:Option Addr) (n:Nat) (l:List Lb):Prop:=Lst labCells 3 w A n l
theorem Labs.at_ {w:World} {A:Option Addr} {n k:Nat} {l:List Lb} (h:Labs w A n l) (hk:k < n) :
  ∃ ad x,A=some ad∧l[k]? = some x∧w.cell? (ad.add (k * 3))=some (.int .i64 x.set)∧w.cell? ⟨(ad.add (k * 3)).block,(ad.add (k * 3)).off + 1,none⟩=some (.int .i64 x.last) ∧
   w.cell? ⟨(ad.add (k * 3)).block,(ad.add (k * 3)).off + 2,none⟩=some (.int .i64 x.time):=by
 obtain ⟨ad,x,hA,hl,hc⟩:=Lst.get (f:=labCells) (s:=3) (fun _=>rfl) h hk
 refine ⟨ad,x,hA,hl,hc 0 _ (by omega) rfl,?_,?_⟩ <;> rw [←add_next _ _ _ (by omega)]
 ·exact hc 1 _ (by omega) rfl
 ·exact hc 2 _ (by omega) rfl
theorem Tryz.info167:(Tryz.prog.info? 167).map (fun i=>(i.zero,i.size,i.bytes))=some (some (.agg #[.int .i64 0,.int .i64 0,.int .i64 0]),3,24):=by kernel_rfl
theorem app_lab {ops:Array Oper} {rest:List Oper} {o:Oper} {a:Act} {Q:Exit→Act→World→Prop} {w:World} (hgd:o.guard=none) (s x:Operand)
  (ho:o.op=.call { callee:=.builtin .append,args:=#[s,x],argTypes:=#[88,88] })
  (base:Nat) (v:Value) (n:Nat) (l:List Lb) (hs:a.eval s=v) (hown:w.ownsRow base 167 3 v n (l.flatMap labCells)) (g:Nat) (p q r:Int) (hx:a.eval x=.slice (some ⟨g,0,none⟩) 1 1)
  (hg:w.heap[g]? = some (.cells #[.int .i64 p,.int .i64 q,.int .i64 r] 167 (0,0))) (hn:n≤1000000) (hbase:base≤w.heap.size)
  (h:∀ v' w',w'.ownsRow base 167 3 v' (n + 1) ((l ++ [(⟨p,q,r⟩:Lb)]).flatMap labCells)→w.grownBy w' v.ownBlock→(v'.ownBlock=v.ownBlock∨v'.ownBlock=some w.heap.size)→wpList Tryz.prog ops Q rest (a.put o.dst v') w') :
  wpList Tryz.prog ops Q (o :: rest) a w:=by
 obtain ⟨i0,hi,hz0,hz1,hz2⟩:=info_parts Tryz.info167
 refine wpList_append_own_at w hgd s x 88 ho base 167 i0 (.agg #[.int .i64 0,.int .i64 0,.int .i64 0]) 3 24 Tryz.underlying88 hi hz0 hz1 hz2 rfl (by decide) v n (l.flatMap labCells) hs hown ⟨g,0,none⟩ 1 1 [.int .i64 p,.int .i64 q,.int .i64 r] hx rfl ?_ ?_ ?_ ?_ hbase ?_
 ·intro j u hu
  rw [add_zero_block]
  exact blk_cell hg j u (by simpa using hu)
 ·intro u hu
  simp at hu
  rcases hu with rfl | rfl | rfl <;> rfl
 ·simp only [maxLen];omega
 ·omega
 ·intro v' w' h2 h3 _ h5
  exact h v' w' (by rw [List.flatMap_append];exact h2) h3 h5
namespace K
def rowLabs (m:Nat) (row:List Int):Nat→List Lb
 | 0=>[]
 | i + 1=>rowLabs m row i ++ if m.testBit i=true then [⟨m,i,(row[i]?).getD (-1)⟩] else []
def tabLabs (n:Nat) (t:List (List Int)):Nat→List Lb
 | 0=>[]
 | M + 1=>tabLabs n t M ++ rowLabs M ((t[M]?).getD []) n
def labs (nd:Int) (l:List Ro) (s:S) (r:List Q) (v:List Int):List Lb:=if ok31 nd l s r v=true then tabLabs v.length (table nd l s r v (2 ^ v.length)) (2 ^ v.length) else []
theorem rowLabs_len (m:Nat) (row:List Int):∀ i,(rowLabs m row i).length≤i
 | 0=>Nat.le_refl _
 | i + 1=>by have:=rowLabs_len m row i;simp only [rowLabs,List.length_append];split <;> simp <;> omega
theorem tabLabs_len (n:Nat) (t:List (List Int)):∀ M,(tabLabs n t M).length≤M * n
 | 0=>by simp [tabLabs]
 | M + 1=>by
  have h1:=tabLabs_len n t M
  have h2:=rowLabs_len M ((t[M]?).getD []) n
  simp only [tabLabs,List.length_append,Nat.add_mul]
  omega
end K
def RetLabs (w w':World) (l:List Lb) (e:Ending):Prop:=(∃ A n c,e=.returned (.slice A n c)∧Labs w' A n l)∧Below w.heap.size w w'
theorem own_in {w:World} {base:Nat} {e:TypeId} {size n:Nat} {v:Value} {xs:List Value} (h:w.ownsRow base e size v n xs):∀ g,v.ownBlock=some g→base≤g∧g < w.heap.size:=by
 obtain ⟨-,-,-,-,h3⟩:=own_form h
 exact h3
def RetLabsN (w w':World) (l:List Lb) (e:Ending):Prop:=(∃ A n c,e=.returned (.slice A n c)∧Labs w' A n l∧∀ ad,A=some ad→w.heap.size≤ad.block)∧Below w.heap.size w w'
set_option maxRecDepth 100000 in
set_option maxHeartbeats 16000000 in
theorem labels39_new (x:C) (V:Option Addr) (vn vc:Nat) (v:List Int) (w:World) (hx:At w x) (hV:Ints w V vn v) (hvc:vn≤vc) (hvn:vn≤1000000000) :
  Calls Tryz.prog 78 #[.agg #[.int .i64 x.nd,.slice x.A x.n x.c],.agg #[.int .i64 x.s.day,.int .i64 x.s.depot,.int .i64 x.s.start,.int .i64 x.s.end_,.int .i64 x.s.tare,.slice x.s.A x.s.n x.s.c],.slice x.B x.m x.d,.slice V vn vc] w fun e w'=>RetLabsN w w' (K.labs x.nd x.l x.s x.r v) e:=by
 obtain ⟨w0,hw0⟩:∃ w0:World,w0=(w.alloc (.cells #[.int .i64 x.nd,.slice x.A x.n x.c] 24)).alloc (.cells #[.int .i64 x.s.day,.int .i64 x.s.depot,.int .i64 x.s.start,.int .i64 x.s.end_,.int .i64 x.s.tare,.slice x.s.A x.s.n x.s.c] 63):=⟨_,rfl⟩
 have b0:Below w.heap.size w w0:=by rw [hw0];exact bel ((Below.refl _ _).alloc (Nat.le_refl _) _) ((Below.refl _ _).alloc (Nat.le_refl _) _)
 go_enter Tryz.func78,Tryz.ntmps78
 go_wp2_with fail
 rw [←hw0]
 clear hw0
 refine (planned_any x V vn vc v _ (hx.below b0) (hV.below b0) hvc hvn).mono ?_
 rintro e w1 ⟨hret,b1⟩
 have hb:=bel b0 b1
 have hsz:=b0.size
 rcases hret with ⟨hok,rfl⟩ | ⟨b,mb,rfl,hbb,hbm,hP⟩
 ·have HX:=Lib.hid (show K.labs x.nd x.l x.s x.r v=[] by simp [K.labs,hok])
  clear hok
  go_wp2_with fail
  go_ret
  exact ⟨⟨none,0,0,rfl,by rw [HX.out];exact ⟨rfl,rfl,fun h=>absurd h (by omega)⟩,fun ad e=>(nomatch e)⟩,hb⟩
 ·have hp:=hP (fun _=>False)
  clear hP
  have hLN:=hV.1
  have hv6:=(K.ok31_parts hp.ok).2.2.2.2.1
  dsimp only at hv6
  obtain ⟨N,hN⟩:∃ N,N=2 ^ vn:=⟨_,rfl⟩
  have hN64:N≤64:=by rw [hN];exact Nat.pow_le_pow_right (by omega) (show vn≤6 by omega)
  have HX:=Lib.hid (show K.labs x.nd x.l x.s x.r v=K.tabLabs vn (K.table x.nd x.l x.s x.r v N) N by unfold K.labs;rw [if_pos hp.ok,hN,hLN])
  have hv6':vn≤6:=by omega
  have HLN:=Lib.hid hLN
  have CL:=labels_any b mb ⟨x,V,vn,vc,v⟩ N w1 hp hN
  clear hN hLN hv6
  go_wp2_with fail
  refine CL.mono ?_
  rintro e w2 ⟨go,gs,rfl,hT⟩
  have hb2:Below w.heap.size w w2:=below_own2 hb hT.grown (fun g e=>by injection e with e;omega)
  have hTl:∀ M,M < N→∃ g row,gs[M]? = some g∧(K.table x.nd x.l x.s x.r v N)[M]? = some row∧row.length=vn∧IBlk w2 g row∧w2.cell? ⟨go,M,none⟩=some (.slice (some ⟨g,0,none⟩) vn vn):=fun M hM=>by
   have hgl:gs.length=N:=by rw [hT.len,K.table_len]
   obtain ⟨g,hg⟩:∃ g,gs[M]? = some g:=⟨_,List.getElem?_eq_getElem (by omega)⟩
   have hr:=K.table_at (nd:=x.nd) (l:=x.l) (s:=x.s) (r:=x.r) (v:=v) hM
   exact ⟨g,_,hg,hr,by rw [K.rowOf_len,HLN.out],hT.row M g _ hg hr,blk_cell hT.outb M _ (by simpa using tab_at (n:=vn) (N:=N) hg)⟩
  clear hT CL hp b1 b0
  go_wp2_with fail
  go_loopw [11,29] (fun v11 v29 wr=>∃ M:Nat,v29=.int .i64 M∧M≤N∧wr.ownsRow w2.heap.size 167 3 v11 (K.tabLabs vn (K.table x.nd x.l x.s x.r v N) M).length ((K.tabLabs vn (K.table x.nd x.l x.s x.r v N) M).flatMap labCells)∧Below w2.heap.size w2 wr) (fun _ v29 _=>N - (intOf v29).toNat)
  case atStart=>exact ⟨0,rfl,by omega,World.ownsRow_nil _ _ _ _,Below.refl _ _⟩
  case round =>
   obtain ⟨M,rfl,hM,hown,hbr⟩:=hrel
   by_cases hlt:M < N
   ·obtain ⟨g,row,-,htr,hrl,hI,hc⟩:=hTl M hlt
    have HM1:=Lib.hid (show K.tabLabs vn (K.table x.nd x.l x.s x.r v N) (M + 1)=K.tabLabs vn (K.table x.nd x.l x.s x.r v N) M ++ K.rowLabs M row vn by rw [K.tabLabs,htr];rfl)
    have hlen:=K.tabLabs_len vn (K.table x.nd x.l x.s x.r v N) M
    have hlen2:M * vn≤64 * 6:=Nat.mul_le_mul (by omega) hv6'
    have hcr:=(hbr.cell (cell_lt hc)).trans hc
    have k0:(0:Int)≤(M:Int):=by omega
    have k1:(M:Int) < (N:Int):=by omega
    have HRL:=Lib.hid hrl
    obtain ⟨L0,hL0⟩:∃ L0,L0=K.tabLabs vn (K.table x.nd x.l x.s x.r v N) M:=⟨_,rfl⟩
    rw [←hL0] at hown hlen
    have HL0:=Lib.hid hL0
    clear htr hc hrl hL0
    go_wp2_with fail
    go_loopw [11,36] (fun v11 v36 wi=>∃ i:Nat,v36=.int .i64 i∧i≤vn∧wi.ownsRow w2.heap.size 167 3 v11 (L0 ++ K.rowLabs M row i).length ((L0 ++ K.rowLabs M row i).flatMap labCells)∧Below w2.heap.size w2 wi) (fun _ v36 _=>vn - (intOf v36).toNat)
    case atStart=>exact ⟨0,rfl,by omega,by rw [K.rowLabs,List.append_nil];exact hown,hbr⟩
    case round =>
     clear hown hcr hbr
     obtain ⟨i,rfl,hi,hown,hbr⟩:=hrel
     by_cases hlti:i < vn
     ·obtain ⟨y,hy⟩:∃ y,row[i]? = some y:=⟨_,List.getElem?_eq_getElem (by rw [HRL.out];exact hlti)⟩
      have cy:=(hbr.cell (cell_lt (hI.cell hy))).trans (hI.cell hy)
      have k2:(0:Int)≤(i:Int):=by omega
      have k3:(i:Int) < (vn:Int):=by omega
      have hlr:=K.rowLabs_len M row i
      cases hbit:M.testBit i
      ·have hb1:bits BinOp.and IntKind.i64 ((M:Int) / 2 ^ i) 1=0:=by rw [bit_at (by omega) (by omega),hbit];rfl
       have HU:=Lib.hid (show K.rowLabs M row (i + 1)=K.rowLabs M row i by rw [K.rowLabs,hbit];simp)
       clear hbit hy
       go_wp2_with fail
       go_roundw
       case rel=>exact ⟨i + 1,by go_num,by omega,by rw [HU.out];exact hown,hbr⟩
       case measure=>simp [intOf];omega
      ·have hb1:bits BinOp.and IntKind.i64 ((M:Int) / 2 ^ i) 1=1:=by rw [bit_at (by omega) (by omega),hbit];rfl
       have HU:=Lib.hid (show L0 ++ K.rowLabs M row (i + 1)=(L0 ++ K.rowLabs M row i) ++ [⟨M,i,y⟩] by rw [K.rowLabs,hbit,if_pos rfl,hy,Option.getD_some,List.append_assoc])
       have ha:Below wr.heap.size wr (wr.alloc (.cells #[.int .i64 (M:Int),.int .i64 (i:Int),.int .i64 y] 167)):=(Below.refl _ _).alloc (Nat.le_refl _) _
       have hown2:=own_below hown ha
       have hs2:w2.heap.size≤(wr.alloc (.cells #[.int .i64 (M:Int),.int .i64 (i:Int),.int .i64 y] 167)).heap.size:=Nat.le_trans hbr.size ha.size
       have hln:(L0 ++ K.rowLabs M row i).length≤1000000:=by rw [List.length_append];omega
       clear hbit hy
       go_wp2_with (at_builtin;refine app_lab rfl (.tmp 46) (.tmp 51) rfl w2.heap.size u11 (L0 ++ K.rowLabs M row i).length (L0 ++ K.rowLabs M row i) rfl hown2 wr.heap.size M i y rfl (heap_alloc_at _ _ _ rfl) hln hs2 ?_;intro tv' w6 hown6 hgrow6 hat6)
       have b6:=below_own2 (bel hbr ha) hgrow6 (fun g e=>(hown.lt g e).1)
       have HS:=Lib.hid (show (L0 ++ K.rowLabs M row i).length + 1=(L0 ++ K.rowLabs M row (i + 1)).length by rw [HU.out,List.length_append (bs:=[_])];rfl)
       rw [←HU.out,HS.out] at hown6
       clear hgrow6 hat6 hown2 hown
       go_roundw
       case rel=>exact ⟨i + 1,by go_num,by omega,hown6,b6⟩
       case measure=>simp [intOf];omega
     ·have hin:i=vn:=by omega
      rw [hin] at hown
      have HM2:=Lib.hid HM1.out
      rw [HL0.out,←HM2.out] at hown
      clear hin
      go_wp2_with fail
      go_roundw
      case rel=>exact ⟨M + 1,by go_num,by omega,hown,hbr⟩
      case measure=>simp [intOf];omega
   ·have hMN:M=N:=by omega
    rw [hMN] at hown
    have hnew9:=own_in hown
    obtain ⟨A9,c9,rfl,hRd,-⟩:=own_form hown
    have hnw9:∀ ad,A9=some ad→w.heap.size≤ad.block:=fun ad e=>(by have h1:=(hnew9 ad.block (by rw [e];rfl)).1;have h2:=hb2.size;omega)
    clear hnew9
    clear hMN
    go_wp2_with fail
    go_ret
    exact ⟨⟨_,_,_,rfl,by rw [HX.out];exact ⟨rfl,hRd⟩,hnw9⟩,bel hb2 hbr⟩
theorem labels30_any (x:C) (V:Option Addr) (vn vc:Nat) (v:List Int) (w:World) (hx:At w x) (hV:Ints w V vn v) (hvc:vn≤vc) (hvn:vn≤1000000000) :
  Calls Tryz.prog 78 #[.agg #[.int .i64 x.nd,.slice x.A x.n x.c],.agg #[.int .i64 x.s.day,.int .i64 x.s.depot,.int .i64 x.s.start,.int .i64 x.s.end_,.int .i64 x.s.tare,.slice x.s.A x.s.n x.s.c],.slice x.B x.m x.d,.slice V vn vc] w fun e w'=>RetLabs w w' (K.labs x.nd x.l x.s x.r v) e :=
 (labels39_new x V vn vc v w hx hV hvc hvn).mono fun _ _ ⟨⟨A,n,c,h1,h2,_⟩,hb⟩=>⟨⟨A,n,c,h1,h2⟩,hb⟩
theorem Lb.eq_iff {a b:Lb}:a=b ↔ a.set=b.set∧a.last=b.last∧a.time=b.time:=by
 cases a;cases b;simp
instance:DecidableEq Lb:=fun _ _=>decidable_of_iff _ Lb.eq_iff.symm
theorem take_eq_nextl {la lb:List Lb} {k:Nat} {x y:Lb} (hx:la[k]? = some x) (hy:lb[k]? = some y) (h:la.take k=lb.take k):la.take (k + 1)=lb.take (k + 1) ↔ x=y:=by
 rw [take_snoc hx,take_snoc hy,h]
 simp
set_option maxHeartbeats 4000000 in
theorem eqlab_any (A B:Option Addr) (n m c d:Nat) (la lb:List Lb) (w:World) (hla:Labs w A n la) (hlb:Labs w B m lb) (hn:n≤1000000000) (hm:m≤1000000000) :
  Calls Tryz.prog 138 #[.slice A n c,.slice B m d] w fun e w'=>e=.returned (.bool (decide (la=lb)))∧Below w.heap.size w w':=by
 by_cases hnm:n=m
 ·obtain rfl:=hnm
  go_enter Tryz.func138,Tryz.ntmps138
  go_wp2_with fail
  go_loopw [13] (fun vi wr=>∃ k:Nat,vi=.int .i64 k∧k≤n∧Hid (la.take k=lb.take k)∧Below w.heap.size w wr) (fun vi _=>n - (intOf vi).toNat)
  case atStart=>exact ⟨0,rfl,by omega,rfl,Below.refl _ _⟩
  case round =>
   obtain ⟨k,rfl,hk,hr,hb⟩:=hrel
   by_cases hlt:k < n
   ·obtain ⟨ad,o,rfl,hg,c0,c1,c2⟩:=Labs.at_ (Lst.below hla hb) hlt
    obtain ⟨ad2,o2,rfl,hg2,d0,d1,d2⟩:=Labs.at_ (Lst.below hlb hb) hlt
    have HN:=Lib.hid (take_eq_nextl hg hg2 hr.out)
    have k0:(0:Int)≤(k:Int):=by omega
    have k1:(k:Int) < (n:Int):=by omega
    clear hg hg2
    cases e1:(o.set == o2.set)
    ·have HX:=Lib.hid (fun h=>(show ¬ o=o2 from fun e=>by rw [e] at e1;simp at e1) (HN.out.1 h))
     go_wp2_with fail
     go_quiet (fail)
     go_wp2_with fail
     go_ret
     exact ⟨ret_b (Eq.symm (decide_eq_false (fun h=>HX.out (by rw [h])))),below_drewN hb _⟩
    cases e2:(o.last == o2.last)
    ·have HX:=Lib.hid (fun h=>(show ¬ o=o2 from fun e=>by rw [e] at e2;simp at e2) (HN.out.1 h))
     go_wp2_with fail
     go_quiet (fail)
     go_wp2_with fail
     go_ret
     exact ⟨ret_b (Eq.symm (decide_eq_false (fun h=>HX.out (by rw [h])))),below_drewN hb _⟩
    cases e3:(o.time == o2.time)
    ·have HX:=Lib.hid (fun h=>(show ¬ o=o2 from fun e=>by rw [e] at e3;simp at e3) (HN.out.1 h))
     go_wp2_with fail
     go_quiet (fail)
     go_wp2_with fail
     go_ret
     exact ⟨ret_b (Eq.symm (decide_eq_false (fun h=>HX.out (by rw [h])))),below_drewN hb _⟩
    have HX:=Lib.hid (HN.out.2 (Lb.eq_iff.2 ⟨by simpa using e1,by simpa using e2,by simpa using e3⟩))
    go_wp2_with fail
    go_quiet (fail)
    go_wp2_with fail
    go_roundw
    case rel=>exact ⟨k + 1,by go_num,by omega,HX.out,below_drewN hb _⟩
    case measure=>simp [intOf];omega
   ·have HX:=Lib.hid (show la=lb by
     have h:=hr.out
     rw [List.take_of_length_le (by rw [←hla.1];omega),List.take_of_length_le (by rw [←hlb.1];omega)] at h
     exact h)
    go_wp2_with fail
    go_ret
    exact ⟨ret_b (Eq.symm (decide_eq_true HX.out)),hb⟩
 ·have HX:=Lib.hid (show ¬ la=lb from fun h=>hnm (by rw [hla.1,hlb.1,h]))
  have q1:(((n:Nat):Int) != ((m:Nat):Int))=true:=by simp;omega
  go_enter Tryz.func138,Tryz.ntmps138
  go_wp2_with fail
  go_ret
  exact ⟨ret_b (Eq.symm (decide_eq_false HX.out)),Below.refl _ _⟩
namespace K
def opens (y:Int) (en:Int) (all:Nat) (x:Lb):Bool:=(x.set == (all:Int)) && ((x.time != -1) && ((y != -1) && decide (x.time + y≤en)))
end K
theorem wayd_any (b mb:Nat) (p:PS) (fr:Int) (tn m:Nat) (w:World) {X:Nat→Prop} (hp:PAt w b mb p X) (hX:∀ g,X g→g < w.heap.size) (hm:m < 256) (hfr:0≤fr∧fr < p.x.nd) {d:Int} (hd:d=(tn:Int)) (hto:d < p.x.nd) (hwt:(Lit.int .i64 (T.weight p.x.s p.x.r (K.part p.l m))).wf=true) :
  Calls Tryz.prog 141 #[.pointer (some ⟨b,0,none⟩),.int .i64 fr,.int .i64 d,.int .i64 m] w fun e w'=>RetWay w w' b mb p X (K.way p.x.nd p.x.l fr (T.weight p.x.s p.x.r (K.part p.l m)) d) e:=by
 subst hd
 exact way_any b mb p fr tn m w hp hX hm hfr hto hwt
set_option maxRecDepth 100000 in
set_option maxHeartbeats 16000000 in
theorem blk1_any (b mb:Nat) (p:PS) (all:Nat) (x:Lb) (ga gp gs i j:Nat) (q:Q) (w:World) {X:Nat→Prop} (hp:PAt w b mb p X) (hX:∀ g,X g→g < w.heap.size)
  (ha:w.heap[ga]? = some (.cells #[.int .i64 (all:Int)] 3 (0,0))) (hpp:w.heap[gp]? = some (.cells #[.pointer (some ⟨b,0,none⟩)] 162 (0,0))) (hs:Shf w gs p.x.s)
  (hel:Elem p i j q) (hxl:x.last=(i:Int)) (hno:0≤q.node∧q.node < p.x.nd) (hall:all < 256) (ht:-1≤x.time∧x.time≤1000000) :
  Calls Tryz.prog 140 #[.agg #[.int .i64 x.set,.int .i64 x.last,.int .i64 x.time],.pointer (some ⟨ga,0,none⟩),.pointer (some ⟨gp,0,none⟩),.pointer (some ⟨gs,0,none⟩)] w
   fun e w'=>e=.returned (.bool (K.opens (K.way p.x.nd p.x.l q.node (T.weight p.x.s p.x.r (K.part p.l all)) p.x.s.depot) p.x.s.end_ all x))∧Went w w' b mb p X:=by
 obtain ⟨hne,hck,hdp,-⟩:=K.ok31_parts hp.ok
 obtain ⟨-,⟨d0,d1⟩,st0,st1,en1⟩:=K.check_parts hck
 have hl6:=(K.ok31_parts hp.ok).2.2.2.2.1
 have hwt:(Lit.int .i64 (T.weight p.x.s p.x.r (K.part p.l all))).wf=true:=T.weight_wf (by have:=K.part_len p.l all;omega)
 obtain ⟨dn,hdn⟩:∃ dn:Nat,p.x.s.depot=(dn:Int):=⟨p.x.s.depot.toNat,by omega⟩
 obtain ⟨w1,hw1⟩:∃ w1,w1=w.alloc (.cells #[.int .i64 x.set,.int .i64 (i:Int),.int .i64 x.time] 167):=⟨_,rfl⟩
 have b1:Below w.heap.size w w1:=by rw [hw1];exact (Below.refl _ _).alloc (Nat.le_refl _) _
 have hB:w1.heap[w.heap.size]? = some (.cells #[.int .i64 x.set,.int .i64 (i:Int),.int .i64 x.time] 167 (0,0)):=by rw [hw1];exact heap_alloc_new _ _
 have hp1:=hp.below b1
 have hS:∀ w',Ext w1 w'→w'.cell? ⟨gp,0,none⟩=some (.pointer (some ⟨b,0,none⟩))∧w'.cell? ⟨ga,0,none⟩=some (.int .i64 (all:Int))∧w'.cell? ⟨gs,1,none⟩=some (.int .i64 p.x.s.depot)∧w'.cell? ⟨gs,3,none⟩=some (.int .i64 p.x.s.end_)∧w'.cell? ⟨w.heap.size,0,none⟩=some (.int .i64 x.set)∧w'.cell? ⟨w.heap.size,1,none⟩=some (.int .i64 (i:Int))∧w'.cell? ⟨w.heap.size,2,none⟩=some (.int .i64 x.time):=fun w' h=>by
  have h2:=(Ext.below b1).trans h
  obtain ⟨s0,s1,s2,s3,s4,s5⟩:=hs.cells
  exact ⟨h2.cell (blk_cell hpp 0 _ rfl),h2.cell (blk_cell ha 0 _ rfl),h2.cell s1,h2.cell s3,h.cell (blk_cell hB 0 _ rfl),h.cell (blk_cell hB 1 _ rfl),h.cell (blk_cell hB 2 _ rfl)⟩
 have S0:=hS w1 (Ext.refl _)
 have S0d:=hS w1.drew (Ext.below (Below.refl w1.heap.size w1).drew)
 have CN:=node_any b mb p i j q w1.drew (hp1.below (Below.refl _ _).drew) hel
 obtain ⟨c0,c1,c2,c3,c4,c5,c6⟩:=S0
 rw [hw1] at c0 c1 c2 c3 c4 c5 c6
 obtain ⟨y,hy⟩:∃ y,y=K.way p.x.nd p.x.l q.node (T.weight p.x.s p.x.r (K.part p.l all)) p.x.s.depot:=⟨_,rfl⟩
 have hyb:=K.way_bd p.x.nd p.x.l q.node (T.weight p.x.s p.x.r (K.part p.l all)) p.x.s.depot
 rw [←hy] at hyb ⊢
 have HY:=Lib.hid hy
 have HDN:=Lib.hid hdn
 have hW1:=went_below hp b1
 rw [hxl]
 clear hy hne hck hdn
 go_enter Tryz.func140,Tryz.ntmps140
 cases e1:(x.set == (all:Int))
 ·have q1:(x.set != (all:Int))=true:=by simp [bne,e1]
  have HX:=Lib.hid (show K.opens y p.x.s.end_ all x=false by simp [K.opens,e1])
  clear e1
  go_wp2_with fail
  go_ret
  exact ⟨ret_b HX.out.symm,by rw [←hw1];exact hW1⟩
 have q1:(x.set != (all:Int))=false:=by simp [bne,e1]
 cases e2:(x.time == -1)
 rotate_left
 ·have HX:=Lib.hid (show K.opens y p.x.s.end_ all x=false by simp [K.opens,bne,e2])
  go_wp2_with fail
  go_ret
  exact ⟨ret_b HX.out.symm,by rw [←hw1];exact hW1⟩
 have HX:=Lib.hid (show K.opens y p.x.s.end_ all x=((y != -1) && decide (x.time + y≤p.x.s.end_)) by simp [K.opens,bne,e1,e2])
 go_wp2_with fail
 rw [←hw1]
 clear c0 c1 c2 c3 c4 c5 c6 hw1 e1 e2 q1
 have S0:=hS w1 (Ext.refl _)
 go_region_held3 (fun w'=>w'.cell? ⟨gp,0,none⟩=some (.pointer (some ⟨b,0,none⟩))∧w'.cell? ⟨ga,0,none⟩=some (.int .i64 (all:Int))∧w'.cell? ⟨gs,1,none⟩=some (.int .i64 p.x.s.depot)∧w'.cell? ⟨gs,3,none⟩=some (.int .i64 p.x.s.end_)∧w'.cell? ⟨w.heap.size,0,none⟩=some (.int .i64 x.set)∧w'.cell? ⟨w.heap.size,1,none⟩=some (.int .i64 (i:Int))∧w'.cell? ⟨w.heap.size,2,none⟩=some (.int .i64 x.time))
  (first | assumption | exact S0 | exact S0d)
  (first
   | (go_at_call 142;refine CN.mono ?_;rintro e w2 ⟨rfl,b2⟩;have hd2:Below w1.heap.size w1 w2:=bel (w1:=w1.drew) (Below.refl _ _).drew b2;have hp2:=hp1.below hd2;have S1:=hS w2 (Ext.below hd2))
   | (go_at_call 141;refine (wayd_any b mb p q.node dn all w2 hp2 (fun g hg=>Nat.lt_of_lt_of_le (hX g hg) (bel b1 hd2).size) hall hno HDN.out hdp hwt).mono ?_;rintro e w3 ⟨rfl,hW⟩;have hx3:=(Ext.below hd2).trans (hW.ext hp2);have S2:=hS w3 hx3)
   | fail)
 rw [←HY.out]
 have hW3:=(hW1.below hd2).trans hW
 obtain ⟨c0,c1,c2,c3,c4,c5,c6⟩:=S2
 have hwrap:IntKind.i64.wrap (x.time + y)=x.time + y:=IntWalk.i64_in _ (by omega)
 clear S0 S0d S1 hS CN
 cases e3:(y == -1)
 ·have q3:(y != -1)=true:=by simp [bne,e3]
  rw [q3] at HX
  go_wp2_with fail
  go_ret
  exact ⟨ret_b (by rw [HX.out];rfl),hW3⟩
 ·have q3:(y != -1)=false:=by simp [bne,e3]
  rw [q3] at HX
  go_wp2_with fail
  go_ret
  exact ⟨ret_b (by rw [HX.out];rfl),hW3⟩
namespace K
def opensAt (nd:Int) (l:List Ro) (s:S) (r:List Q) (v:List Int) (all:Nat) (x:Lb):Bool :=
 opens (way nd l (req r ((v[x.last.toNat]?).getD 0)).node (T.weight s r (part v all)) s.depot) s.end_ all x
end K
def LabOk (p:PS) (x:Lb):Prop:=∃ i j q,Elem p i j q∧x.last=(i:Int)∧(0≤q.node∧q.node < p.x.nd)∧(-1≤x.time∧x.time≤1000000)
set_option maxHeartbeats 4000000 in
theorem indexL (b mb:Nat) (p:PS) (all ga gp gs:Nat) (A:Option Addr) (n c:Nat) (l:List Lb) (w:World) {X:Nat→Prop} (hp:PAt w b mb p X) (hX:∀ g,X g→g < w.heap.size)
  (ha:w.heap[ga]? = some (.cells #[.int .i64 (all:Int)] 3 (0,0))) (hpp:w.heap[gp]? = some (.cells #[.pointer (some ⟨b,0,none⟩)] 162 (0,0))) (hs:Shf w gs p.x.s) (hall:all < 256)
  (hl:Labs w A n l) (hn:n≤1000000000) (hok:∀ x ∈ l,LabOk p x) :
  Calls Tryz.prog 189 #[.slice A n c,.func (.func 140) #[] #[.pointer (some ⟨ga,0,none⟩),.pointer (some ⟨gp,0,none⟩),.pointer (some ⟨gs,0,none⟩)]] w
   fun e w'=>(∃ i:Int,e=.returned (.int .i64 i)∧(decide (0≤i))=l.any (K.opensAt p.x.nd p.x.l p.x.s p.x.r p.l all))∧Went w w' b mb p X:=by
 go_enter Tryz.func189,Tryz.ntmps189
 go_wp2_with fail
 go_loopw [8] (fun vi wr=>∃ k:Nat,vi=.int .i64 k∧k≤n∧Hid (l.any (K.opensAt p.x.nd p.x.l p.x.s p.x.r p.l all)=(l.drop k).any (K.opensAt p.x.nd p.x.l p.x.s p.x.r p.l all))∧Went w wr b mb p X) (fun vi _=>n - (intOf vi).toNat)
 case atStart=>exact ⟨0,rfl,by omega,by show _=_;rw [List.drop_zero],went_below hp (Below.refl _ _)⟩
 case round =>
  obtain ⟨k,rfl,hk,hr,hW⟩:=hrel
  have hx:=hW.ext hp
  by_cases hlt:k < n
  ·obtain ⟨ad,x,rfl,hg,c0,c1,c2⟩:=Labs.at_ (Lst.ext hl hx) hlt
   obtain ⟨i,j,q,hel,hxl,hno,htb⟩:=hok x (List.mem_of_getElem? hg)
   have HS:=Lib.hid (drop_any (p:=K.opensAt p.x.nd p.x.l p.x.s p.x.r p.l all) hg)
   have HV:=Lib.hid (show K.opensAt p.x.nd p.x.l p.x.s p.x.r p.l all x=K.opens (K.way p.x.nd p.x.l q.node (T.weight p.x.s p.x.r (K.part p.l all)) p.x.s.depot) p.x.s.end_ all x by
    unfold K.opensAt;rw [hxl,Int.toNat_natCast,hel.set,Option.getD_some,K.req_get hel.req])
   have CB:=blk1_any b mb p all x ga gp gs i j q wr hW.2 (fun g hg=>Nat.lt_of_lt_of_le (hX g hg) hx.size) (hx.cells _ _ _ _ ha) (hx.cells _ _ _ _ hpp) (hx.cells _ _ _ _ hs) hel hxl hno hall htb
   rw [←HV.out] at CB
   obtain ⟨r9,hr9⟩:∃ r9,r9=K.opensAt p.x.nd p.x.l p.x.s p.x.r p.l all x:=⟨_,rfl⟩
   rw [←hr9] at CB
   have HR9:=Lib.hid hr9
   clear hg hr9 hxl
   go_wp2_with fail
   refine CB.mono ?_
   rintro e w1 ⟨rfl,hW1⟩
   have hW2:=hW.trans hW1
   clear CB
   cases r9
   ·go_wp2_with fail
    go_roundw
    case rel=>exact ⟨k + 1,by go_num,by omega,by show _=_;rw [hr.out,HS.out,←HR9.out];rfl,hW2⟩
    case measure=>simp [intOf];omega
   ·go_wp2_with fail
    go_ret
    exact ⟨⟨k,rfl,by rw [hr.out,HS.out,←HR9.out];simp⟩,hW2⟩
  ·have hd:l.drop k=[]:=List.drop_eq_nil_of_le (by rw [←hl.1];omega)
   have HD:=Lib.hid hd
   clear hd
   go_wp2_with fail
   go_ret
   exact ⟨⟨-1,rfl,by rw [hr.out,HD.out];rfl⟩,hW⟩
set_option maxHeartbeats 4000000 in
theorem containsL (b mb:Nat) (p:PS) (all ga gp gs:Nat) (A:Option Addr) (n c:Nat) (l:List Lb) (w:World) {X:Nat→Prop} (hp:PAt w b mb p X) (hX:∀ g,X g→g < w.heap.size)
  (ha:w.heap[ga]? = some (.cells #[.int .i64 (all:Int)] 3 (0,0))) (hpp:w.heap[gp]? = some (.cells #[.pointer (some ⟨b,0,none⟩)] 162 (0,0))) (hs:Shf w gs p.x.s) (hall:all < 256)
  (hl:Labs w A n l) (hn:n≤1000000000) (hok:∀ x ∈ l,LabOk p x) :
  Calls Tryz.prog 139 #[.slice A n c,.func (.func 140) #[] #[.pointer (some ⟨ga,0,none⟩),.pointer (some ⟨gp,0,none⟩),.pointer (some ⟨gs,0,none⟩)]] w
   fun e w'=>e=.returned (.bool (l.any (K.opensAt p.x.nd p.x.l p.x.s p.x.r p.l all)))∧Went w w' b mb p X:=by
 have CI:=indexL b mb p all ga gp gs A n c l w hp hX ha hpp hs hall hl hn hok
 clear ha hpp hs
 go_enter Tryz.func139,Tryz.ntmps139
 go_wp2_with fail
 refine CI.mono ?_
 rintro e w1 ⟨⟨i,rfl,hi⟩,hb1⟩
 go_wp2_with fail
 go_ret
 exact ⟨rfl,hb1⟩
namespace K
def blocks (nd:Int) (l:List Ro) (s:S) (r:List Q) (v:List Int) (b:List Lb):Bool :=
 ok31 nd l s r v && (!(v.length == 0) && (decide (b=labs nd l s r v) && !(b.any (opensAt nd l s r v (2 ^ v.length - 1)))))
end K
namespace K
theorem mem_rowLabs {m:Nat} {row:List Int} {x:Lb}:∀ {i:Nat},x ∈ rowLabs m row i→∃ k,k < i∧m.testBit k=true∧x=⟨m,k,(row[k]?).getD (-1)⟩
 | 0,h=>by simp [rowLabs] at h
 | i + 1,h=>by
  rw [rowLabs] at h
  rcases List.mem_append.1 h with h | h
  ·obtain ⟨k,hk,h2⟩:=mem_rowLabs h
   exact ⟨k,by omega,h2⟩
  ·by_cases hb:m.testBit i=true
   ·rw [if_pos hb] at h
    exact ⟨i,by omega,hb,List.mem_singleton.1 h⟩
   ·rw [if_neg hb] at h;cases h
theorem mem_tabLabs {n:Nat} {t:List (List Int)} {x:Lb}:∀ {M:Nat},x ∈ tabLabs n t M→∃ m,m < M∧x ∈ rowLabs m ((t[m]?).getD []) n
 | 0,h=>by simp [tabLabs] at h
 | M + 1,h=>by
  rw [tabLabs] at h
  rcases List.mem_append.1 h with h | h
  ·obtain ⟨m,hm,h2⟩:=mem_tabLabs h
   exact ⟨m,by omega,h2⟩
  ·exact ⟨M,by omega,h⟩
end K
theorem PAt.labs {w:World} {b mb:Nat} {p:PS} {X:Nat→Prop} (h:PAt w b mb p X):∀ x ∈ K.labs p.x.nd p.x.l p.x.s p.x.r p.l,LabOk p x:=by
 intro x hx
 unfold K.labs at hx
 rw [if_pos h.ok] at hx
 obtain ⟨m,hm,hx⟩:=K.mem_tabLabs hx
 obtain ⟨k,hk,-,rfl⟩:=K.mem_rowLabs hx
 obtain ⟨j,q,hel,hno,hse,-⟩:=h.elem (k:=k) (by rw [h.set.1];exact hk)
 refine ⟨k,j,q,hel,rfl,hno,?_⟩
 rw [K.table_at hm,Option.getD_some]
 have hsrv:∀ i ∈ p.l,0≤(K.req p.x.r i).service:=fun i hi=>by
  obtain ⟨k2,hk2⟩:=List.mem_iff_getElem?.1 hi
  obtain ⟨j2,q2,hel2,-,hse2,-⟩:=h.elem (k:=k2) (by rw [h.set.1];exact (List.getElem?_eq_some_iff.1 hk2).1)
  have h1:=hel2.set
  rw [hk2] at h1
  injection h1 with h1
  rw [h1,K.req_get hel2.req]
  exact hse2.1
 have hb:=K.rowOf_bd (nd:=p.x.nd) (l:=p.x.l) (s:=p.x.s) (r:=p.x.r) (v:=p.l) (t:=K.table p.x.nd p.x.l p.x.s p.x.r p.l m) (m:=m) hsrv
 have hkl:k < (K.rowOf p.x.nd p.x.l p.x.s p.x.r p.l (K.table p.x.nd p.x.l p.x.s p.x.r p.l m) m).length:=by rw [K.rowOf_len];exact hk
 rw [List.getElem?_eq_getElem hkl,Option.getD_some]
 exact hb _ (List.getElem_mem hkl)
theorem K.labs_len (nd:Int) (l:List Ro) (s:S) (r:List Q) (v:List Int):(K.labs nd l s r v).length≤1000:=by
 unfold K.labs
 split
 ·rename_i h
  have hl:=(K.ok31_parts h).2.2.2.2.1
  have h1:=K.tabLabs_len v.length (K.table nd l s r v (2 ^ v.length)) (2 ^ v.length)
  have h2:2 ^ v.length≤64:=Nat.pow_le_pow_right (n:=2) (by omega) hl
  have h3:2 ^ v.length * v.length≤64 * 6:=Nat.mul_le_mul h2 hl
  omega
 ·simp
set_option maxRecDepth 100000 in
set_option maxHeartbeats 16000000 in
theorem blocks_any (x:C) (sh:Int) (V:Option Addr) (vn vc:Nat) (v:List Int) (LA:Option Addr) (ln lc:Nat) (l:List Lb) (w:World) (hx:At w x) (hV:Ints w V vn v) (hvc:vn≤vc) (hvn:vn≤1000000000) (hL:Labs w LA ln l) (hln:ln≤1000000000) :
  Calls Tryz.prog 88 #[.agg #[.int .i64 x.nd,.slice x.A x.n x.c],.agg #[.int .i64 x.s.day,.int .i64 x.s.depot,.int .i64 x.s.start,.int .i64 x.s.end_,.int .i64 x.s.tare,.slice x.s.A x.s.n x.s.c],.slice x.B x.m x.d,.agg #[.int .i64 sh,.slice V vn vc,.slice LA ln lc]] w fun e w'=>e=.returned (.bool (K.blocks x.nd x.l x.s x.r v l))∧Below w.heap.size w w':=by
 obtain ⟨w1,hw1⟩:∃ w1:World,w1=w.alloc (.cells #[.int .i64 x.nd,.slice x.A x.n x.c] 24):=⟨_,rfl⟩
 obtain ⟨w2,hw2⟩:∃ w2:World,w2=w1.alloc (.cells #[.int .i64 x.s.day,.int .i64 x.s.depot,.int .i64 x.s.start,.int .i64 x.s.end_,.int .i64 x.s.tare,.slice x.s.A x.s.n x.s.c] 63):=⟨_,rfl⟩
 obtain ⟨w3,hw3⟩:∃ w3:World,w3=w2.alloc (.cells #[.int .i64 sh,.slice V vn vc,.slice LA ln lc] 90):=⟨_,rfl⟩
 have z1:w1.heap.size=w.heap.size + 1:=by rw [hw1];exact World.size_alloc _ _
 have z2:w2.heap.size=w.heap.size + 1 + 1:=by rw [hw2,World.size_alloc,z1]
 have b01:Below w.heap.size w w1:=by rw [hw1];exact (Below.refl _ _).alloc (Nat.le_refl _) _
 have b12:Below w1.heap.size w1 w2:=by rw [hw2];exact (Below.refl _ _).alloc (Nat.le_refl _) _
 have b23:Below w2.heap.size w2 w3:=by rw [hw3];exact (Below.refl _ _).alloc (Nat.le_refl _) _
 have hP:Net w3 w.heap.size x.nd x.A x.n x.c:=by
  have h1:Net w1 w.heap.size x.nd x.A x.n x.c:=by rw [hw1];exact Net.new _ _ _ _ _
  exact (h1.below b12).below b23
 have hS:Shf w3 (w.heap.size + 1) x.s:=by
  have h1:Shf w2 (w.heap.size + 1) x.s:=by rw [←z1,hw2];exact Shf.new _ _
  exact h1.below b23
 have hB:w3.heap[w.heap.size + 1 + 1]? = some (.cells #[.int .i64 sh,.slice V vn vc,.slice LA ln lc] 90 (0,0)):=by rw [←z2,hw3];exact heap_alloc_new _ _
 have b3:=bel (bel b01 b12) b23
 go_enter Tryz.func88,Tryz.ntmps88
 go_wp2_with fail
 rw [←hw1,←hw2,←hw3]
 clear hw1 hw2 hw3 z1 z2 b01 b12 b23
 refine (planned_any x V vn vc v _ (hx.below b3) (hV.below b3) hvc hvn).mono ?_
 rintro e w4 ⟨hret,b34⟩
 have hP:=hP.below b34
 have hS:=hS.below b34
 have hB:=blk_below b34 hB
 have hb:=bel b3 b34
 have hsz:=b3.size
 clear b3 b34
 rcases hret with ⟨hok,rfl⟩ | ⟨b,mb,rfl,hbb,hbm,hPl⟩
 ·have HX:=Lib.hid (show K.blocks x.nd x.l x.s x.r v l=false by simp [K.blocks,hok])
  clear hok
  go_wp2_with fail
  go_quiet (fail)
  go_wp2_with fail
  go_ret
  exact ⟨ret_b HX.out.symm,below_drewN (bel hb ((Below.refl _ _).alloc (Nat.le_refl _) _)) _⟩
 have hp:=hPl (fun _=>False)
 clear hPl
 have HOK:=Lib.hid (show K.ok31 x.nd x.l x.s x.r v=true from hp.ok)
 have HLN:=Lib.hid hV.1
 have hv6:vn≤6:=by have:=(K.ok31_parts hp.ok).2.2.2.2.1;have:=hV.1;dsimp only at *;omega
 obtain ⟨w5,hw5⟩:∃ w5,w5=w4.alloc (.cells #[.pointer (some ⟨b,0,none⟩)] 162):=⟨_,rfl⟩
 have b45:Below w4.heap.size w4 w5:=by rw [hw5];exact (Below.refl _ _).alloc (Nat.le_refl _) _
 have hG:w5.heap[w4.heap.size]? = some (.cells #[.pointer (some ⟨b,0,none⟩)] 162 (0,0)):=by rw [hw5];exact heap_alloc_new _ _
 have hP5:=hP.below b45
 have hS5:=hS.below b45
 have hB5:=blk_below b45 hB
 cases hv0:((vn:Int) == 0)
 rotate_left
 ·have HX:=Lib.hid (show K.blocks x.nd x.l x.s x.r v l=false by
   have h0:vn=0:=by simpa using hv0
   have h1:v.length=0:=by rw [←HLN.out];exact h0
   simp [K.blocks,h1])
  have c1:=blk_cell hB5 1 _ rfl
  rw [hw5] at c1
  go_wp2_with fail
  rw [←hw5]
  have c1:=blk_cell hB5 1 _ rfl
  go_quiet (fail)
  go_wp2_with fail
  go_ret
  exact ⟨ret_b HX.out.symm,below_drewN (bel hb b45) _⟩
 have hb5:=bel hb b45
 have HV0:=Lib.hid (show ¬ vn=0 by simpa using hv0)
 have hp5:=hp.below b45
 have hmk:∀ w',Below w5.heap.size w5 w'→(fun w'=>Below w5.heap.size w5 w'∧w'.cell? ⟨w.heap.size,0,none⟩=some (.int .i64 x.nd)∧w'.cell? ⟨w.heap.size,1,none⟩=some (.slice x.A x.n x.c)∧w'.cell? ⟨w.heap.size + 1,0,none⟩=some (.int .i64 x.s.day)∧w'.cell? ⟨w.heap.size + 1,1,none⟩=some (.int .i64 x.s.depot)∧w'.cell? ⟨w.heap.size + 1,2,none⟩=some (.int .i64 x.s.start)∧w'.cell? ⟨w.heap.size + 1,3,none⟩=some (.int .i64 x.s.end_)∧w'.cell? ⟨w.heap.size + 1,4,none⟩=some (.int .i64 x.s.tare)∧w'.cell? ⟨w.heap.size + 1,5,none⟩=some (.slice x.s.A x.s.n x.s.c)∧w'.cell? ⟨w.heap.size + 1 + 1,0,none⟩=some (.int .i64 sh)∧w'.cell? ⟨w.heap.size + 1 + 1,1,none⟩=some (.slice V vn vc)∧w'.cell? ⟨w.heap.size + 1 + 1,2,none⟩=some (.slice LA ln lc)) w':=fun w' h=>by
  have h1:=hP5.below h
  obtain ⟨s0,s1,s2,s3,s4,s5⟩:=(hS5.below h).cells
  have h3:=blk_below h hB5
  exact ⟨h,h1.c0,h1.c1,s0,s1,s2,s3,s4,s5,blk_cell h3 0 _ rfl,blk_cell h3 1 _ rfl,blk_cell h3 2 _ rfl⟩
 have S0:=hmk _ (Below.refl _ _)
 have S0d:=hmk w5.drew (Below.refl w5.heap.size w5).drew
 have h5d:=bel hb5 (w2:=w5.drew) (Below.refl w5.heap.size w5).drew
 go_wp2_with fail
 rw [←hw5]
 clear hw5 hP hS hB hP5 b45
 go_region_held3 (fun w'=>Below w5.heap.size w5 w'∧w'.cell? ⟨w.heap.size,0,none⟩=some (.int .i64 x.nd)∧w'.cell? ⟨w.heap.size,1,none⟩=some (.slice x.A x.n x.c)∧w'.cell? ⟨w.heap.size + 1,0,none⟩=some (.int .i64 x.s.day)∧w'.cell? ⟨w.heap.size + 1,1,none⟩=some (.int .i64 x.s.depot)∧w'.cell? ⟨w.heap.size + 1,2,none⟩=some (.int .i64 x.s.start)∧w'.cell? ⟨w.heap.size + 1,3,none⟩=some (.int .i64 x.s.end_)∧w'.cell? ⟨w.heap.size + 1,4,none⟩=some (.int .i64 x.s.tare)∧w'.cell? ⟨w.heap.size + 1,5,none⟩=some (.slice x.s.A x.s.n x.s.c)∧w'.cell? ⟨w.heap.size + 1 + 1,0,none⟩=some (.int .i64 sh)∧w'.cell? ⟨w.heap.size + 1 + 1,1,none⟩=some (.slice V vn vc)∧w'.cell? ⟨w.heap.size + 1 + 1,2,none⟩=some (.slice LA ln lc))
  (first | assumption | exact S0 | exact S0d)
  (first
   | (go_at_call 78;refine (labels30_any x V vn vc v w5.drew (hx.below h5d) (hV.below h5d) hvc hvn).mono ?_;rintro e w6 ⟨⟨A6,n6,c6,rfl,hI6⟩,b6⟩;have h56:Below w5.heap.size w5 w6:=bel (w1:=w5.drew) (Below.refl _ _).drew b6;have S6:=hmk _ h56)
   | (go_at_call 138;refine (eqlab_any LA A6 ln n6 lc c6 l (K.labs x.nd x.l x.s x.r v) w6 (Lst.below hL (bel hb5 h56)) hI6 hln (by rw [hI6.1];exact Nat.le_trans (K.labs_len _ _ _ _ _) (by omega))).mono ?_;rintro e w7 ⟨rfl,b7⟩;have h57:=bel h56 b7;have S7:=hmk _ h57)
   | fail)
 obtain ⟨z,hz⟩:∃ z,z=decide (l=K.labs x.nd x.l x.s x.r v):=⟨_,rfl⟩
 rw [←hz]
 have HZ:=Lib.hid hz
 have hb7:=bel hb5 h57
 clear S0 S0d S6 h56 hI6 b6 b7 hmk hz
 cases z
 ·have HX:=Lib.hid (show K.blocks x.nd x.l x.s x.r v l=false by unfold K.blocks;rw [←HZ.out];simp)
  clear S7
  go_wp2_with fail
  go_ret
  exact ⟨ret_b HX.out.symm,hb7⟩
 ·have hll:l=K.labs x.nd x.l x.s x.r v:=of_decide_eq_true HZ.out.symm
  obtain ⟨N,hN⟩:∃ N,N=2 ^ vn:=⟨_,rfl⟩
  have hN1:1≤N:=by rw [hN];exact Nat.two_pow_pos vn
  have hN64:N≤64:=by rw [hN];exact Nat.pow_le_pow_right (by omega) hv6
  have hw1:IntKind.i64.wrap ((2:Int) ^ vn)=(N:Int):=by rw [wrap_pow (by omega),hN];simp
  have hw2:wrap64 ((2:Int) ^ vn)=(N:Int):=by rw [←IntWalk.i64_left];exact hw1
  have HNN:=Lib.hid hN
  clear hN
  obtain ⟨al,hal⟩:∃ al,al=N - 1:=⟨_,rfl⟩
  have hw3:IntKind.i64.wrap ((N:Int) - 1)=(al:Int):=by rw [IntWalk.i64_in _ (by omega)];omega
  have hw4:wrap64 ((N:Int) - 1)=(al:Int):=by rw [←IntWalk.i64_left];exact hw3
  have HX:=Lib.hid (show K.blocks x.nd x.l x.s x.r v l=!(l.any (K.opensAt x.nd x.l x.s x.r v al)) by
   unfold K.blocks
   rw [←HZ.out,HOK.out,hal,HNN.out,HLN.out]
   have h0:(v.length == 0)=false:=by have:=HV0.out;rw [HLN.out] at this;simpa using this
   rw [h0]
   simp)
  have hokl:∀ y ∈ l,LabOk ⟨x,V,vn,vc,v⟩ y:=by rw [hll];exact hp.labs
  have hal2:al < 256:=by omega
  obtain ⟨w8,hw8⟩:∃ w8,w8=w7.alloc (.cells #[.int .i64 (al:Int)] 3):=⟨_,rfl⟩
  have b78:Below w7.heap.size w7 w8:=by rw [hw8];exact (Below.refl _ _).alloc (Nat.le_refl _) _
  have h58:=bel h57 b78
  have hA:w8.heap[w7.heap.size]? = some (.cells #[.int .i64 (al:Int)] 3 (0,0)):=by rw [hw8];exact heap_alloc_new _ _
  have e2:=blk_cell (blk_below h58 hB5) 2 _ rfl
  have e1:=blk_cell (blk_below h57 hB5) 1 _ rfl
  rw [hw8] at e2
  have hp8:=hp5.below h58
  have CC:=containsL b mb ⟨x,V,vn,vc,v⟩ al w7.heap.size w4.heap.size (w.heap.size + 1) LA ln lc l w8 hp8 (fun g hg=>hg.elim) hA (blk_below h58 hG) (hS5.below h58) hal2 (Lst.below hL (bel hb7 b78)) hln hokl
  obtain ⟨r9,hr9⟩:∃ r9,r9=l.any (K.opensAt x.nd x.l x.s x.r v al):=⟨_,rfl⟩
  simp only [←hr9] at CC
  rw [←hr9] at HX
  clear S7 hal hr9 hll hokl
  go_wp2_with fail
  rw [←hw8]
  clear e1 e2 hw8
  refine CC.mono ?_
  rintro e w9 ⟨rfl,hW⟩
  go_wp2_with fail
  go_ret
  exact ⟨ret_b HX.out.symm,below_own2 (bel hb7 b78) hW.1 (fun g e=>by injection e with e;omega)⟩
namespace K
def Better (nd:Int) (l:List Ro) (s:S) (r:List Q) (o:List Int) (s':S) (r':List Q) (o':List Int):Prop :=
 (run nd l s' r' o').e=0∧(run nd l s' r' o').tour.end_≤(run nd l s r o).tour.end_
theorem fine_right {nd:Int} {l:List Ro} {s:S} {r:List Q} {o:List Int} (h:right nd l s r o=true):Fine nd r o:=by
 obtain ⟨h1,h2,h3,h4⟩:=right_parts h
 obtain ⟨h5,h6,h7⟩:=T.load_parts h2
 intro i hi
 have hb:=T.isSetFrom_mem h6 i hi
 obtain ⟨q,hq⟩:∃ q,r[i.toNat]? = some q:=⟨_,List.getElem?_eq_getElem (by omega)⟩
 have hr:=right_req (h7 q (List.mem_of_getElem? hq))
 have e:req r i=q:=by unfold req;rw [hq];rfl
 have:=h4 i hi
 rw [e] at this ⊢
 exact ⟨⟨hr.1.1,this⟩,hr.2.1.1⟩
theorem skips {nd:Int} {l:List Ro} {s:S} {r:List Q} {o1 o2:List Int} {i:Int} (h:(run nd l s r (o1 ++ i :: o2)).e=0) :
  Better nd l s r (o1 ++ i :: o2) s r (o1 ++ o2)∧∃ t1 t2 t2' b,(run nd l s r (o1 ++ i :: o2)).tour.times=t1 ++ b :: t2∧(run nd l s r (o1 ++ o2)).tour.times=t1 ++ t2'∧t1.length=o1.length∧Ahead t2' t2:=by
 obtain ⟨h1,h2,h3,h4⟩:=run_ok h
 obtain ⟨p1,p2,p3,p4⟩:=right_parts h1
 obtain ⟨-,⟨d0,d1⟩,st0,st1,-⟩:=check_parts (T.load_parts p2).1
 have hfine:=fine_right h1
 have hsub:(o1 ++ o2).Sublist (o1 ++ i :: o2):=(List.Sublist.refl o1).append (List.sublist_cons_self i o2)
 have hr':=right_sub h1 hsub
 have hp1:=(legs_take (nd:=nd) (l:=l) (s:=s) (r:=r) (o1 ++ i :: o2) [] s.depot s.start o1.length).1 (by
  have:=(legs_full (nd:=nd) (l:=l) (s:=s) (r:=r) (o1 ++ i :: o2) [] s.depot s.start).1 h2
  rw [this,List.length_append];omega)
 rw [List.take_left] at hp1
 have e1:(legs nd l s r [] s.depot s.start o1).e=0:=hp1.1
 have hl1:=(legs_full (nd:=nd) (l:=l) (s:=s) (r:=r) o1 [] s.depot s.start).1 e1
 have hA:=legs_app o1 [] s.depot s.start (i :: o2) e1
 have hB:=legs_app o1 [] s.depot s.start o2 e1
 rw [List.nil_append] at hA hB
 obtain ⟨ha,ht⟩:=legs_at o1 [] s.depot s.start (fun j hj=>hfine j (List.mem_append_left _ hj)) ⟨d0,p3⟩ st0 e1
 obtain ⟨a,hae⟩:∃ a,a=(legs nd l s r [] s.depot s.start o1).a:=⟨_,rfl⟩
 obtain ⟨t,hte⟩:∃ t,t=(legs nd l s r [] s.depot s.start o1).t:=⟨_,rfl⟩
 rw [←hae,←hte] at hA hB
 rw [←hae] at ha
 rw [←hte] at ht
 have e2:(legs nd l s r o1 a t (i :: o2)).e=0:=by
  have:(legs nd l s r [] s.depot s.start (o1 ++ i :: o2)).e=0:=h2
  rw [hA] at this;exact this
 obtain ⟨k1,k2⟩:=legs_cons_ok e2
 have e3:(legs nd l s r (o1 ++ [i]) (req r i).node ((leg nd l s r o1 i a t).1 + (req r i).service) o2).e=0:=by rw [k2] at e2;exact e2
 obtain ⟨⟨n0,n1⟩,n2⟩:=hfine i (by simp)
 obtain ⟨-,-,l3,l4,l5,l6,l7⟩:=leg_ok k1
 obtain ⟨r1,r2,r3,r4⟩:=reach_ok l4
 obtain ⟨-,-,-,f4,-⟩:=H.fit_ok l5
 have hpi:(o1 ++ [i]).Sublist (o1 ++ i :: o2):=(List.Sublist.refl o1).append (by simp)
 have hw0:T.weight s r o1≤T.weight s r (o1 ++ [i]):=T.weight_sub (T.load_sub p2 hpi) (by simp)
 have hd:Dom nd l s r (o1 ++ [i]) (req r i).node ((leg nd l s r o1 i a t).1 + (req r i).service) s r o1 a t:=by
  intro c hc hrc
  obtain ⟨w1,w2,w3,w4⟩:=reach_ok hrc
  obtain ⟨g1,g2,g3⟩:=way_tri p1 ha ⟨n0,n1⟩ hc hw0 r1 w1
  have:t + way nd l a (T.weight s r o1) c≤(reach nd l s r (o1 ++ [i]) (req r i).node ((leg nd l s r o1 i a t).1 + (req r i).service) c).1:=by
   rw [w3,l6];omega
  rw [reach_mk g1 (by omega)]
  exact ⟨rfl,by simp only;omega,by simp only;exact this⟩
 have hsubs:∀ p,p <+: o2→(o1 ++ p).Sublist (o1 ++ [i] ++ p)∧T.load s r (o1 ++ [i] ++ p)=true:=fun p hp=>by
  refine ⟨by simp,T.load_sub p2 ?_⟩
  rw [List.append_assoc]
  exact (List.Sublist.refl o1).append (List.Sublist.cons_cons i hp.sublist)
 obtain ⟨g1,g2,g3⟩:=legs_dom p1 (s:=s) (s':=s) rfl (Int.le_refl _) o2 (o1 ++ [i]) o1 _ _ _ _ (fun _ _=>⟨rfl,rfl,rfl,rfl,rfl⟩) (fun j hj=>hfine j (by simp [hj])) (fun p hp=>T.weight_sub (hsubs p hp).2 (hsubs p hp).1) (fun p hp hf=>T.fits_sub hf (hsubs p hp).1) hd e3
 have hb:=g3 s.depot ⟨d0,p3⟩ (by
  have h9:=h3
  unfold back all at h9
  rw [hA,k2] at h9
  simp only at h9
  simpa using h9)
 have hall:(all nd l s r (o1 ++ o2)).e=0:=by unfold all;rw [hB];exact g1
 have hb1:(back nd l s r (o1 ++ o2)).2=0:=by unfold back all;rw [hB];exact hb.1
 have h5:=run_mk hr' hall hb1
 unfold Better
 rw [h5,h4]
 refine ⟨⟨rfl,?_⟩,(legs nd l s r [] s.depot s.start o1).times,(legs nd l s r (o1 ++ [i]) (req r i).node ((leg nd l s r o1 i a t).1 + (req r i).service) o2).times,(legs nd l s r o1 a t o2).times,(leg nd l s r o1 i a t).1,?_,?_,hl1,g2⟩
 ·have:=hb.2.2
  unfold back all
  rw [hA,hB,k2]
  simp only
  simpa using this
 ·simp only
  unfold all
  rw [hA,k2]
 ·simp only
  unfold all
  rw [hB]
end K
theorem Tryz.info47:(Tryz.prog.info? 47).map (fun i=>(i.zero,i.size,i.bytes))=some (some (.agg #[.int .i64 0,.int .i64 0,.int .i64 0,.int .i64 0,.int .i64 0,.int .i64 0,.slice none 0 0]),7,72):=by kernel_rfl
structure HeavyAt (x:C) (o:List Int) (lb:Nat) (A:Option Addr) (wc:World) (s':S) (r':List Q):Prop where
 shf:Shf wc lb s'
 rooms:Ints wc s'.A s'.n s'.l
 reqs:Reqs wc A x.m r'
 n:s'.n≤1000000000
 qn:∀ q ∈ r',q.n≤1000000000
 better:K.Better x.nd x.l x.s x.r o s' r' o∧K.Ahead (K.run x.nd x.l s' r' o).tour.times (K.run x.nd x.l x.s x.r o).tour.times
theorem step_append_rd {P:Program} {w:World} {ops:Array Oper} {o:Oper} {a:Act} {K:Act→World→Prop} {Q:Exit→Act→World→Prop} {E:Prop} (hgd:o.guard=none) (s x:Operand) (t:TypeId)
  (ho:o.op=.call { callee:=.builtin .append,args:=#[s,x],argTypes:=#[t,t] })
  (base:Nat) (e:TypeId) (i:TypeInfo) (z:Value) (size bytes:Nat) (ht:P.underlying t=some (.slice e)) (hi:P.info? e=some i) (hz:i.zero=some z)
  (hsize:i.size=size) (hby:i.bytes=bytes) (hzs:z.cells.size=size) (hsz:0 < size)
  (v:Value) (n:Nat) (xs:List Value) (hs:a.eval s=v) (hown:w.ownsRow base e size v n xs)
  (A:Option Addr) (m c:Nat) (news:List Value) (hx:a.eval x=.slice A m c) (hr:Rd w size A m news) (h1:∀ u ∈ news,u.oneCell'=true)
  (h63:n + m≤maxLen) (hbytes:(n + m) * bytes≤140737488355328) (hbase:base≤w.heap.size)
  (h:∀ v' w',w'.ownsRow base e size v' (n + m) (xs ++ news)→w.grownBy w' v.ownBlock→(v'.ownBlock=v.ownBlock∨v'.ownBlock=some w.heap.size)→K (a.put o.dst v') w') :
  if Region.wanted o (yielded ops a.tmps)=true then Oper.wp P o a w K Q else E:=by
 have hw:Region.wanted o (yielded ops a.tmps)=true:=by simp [Region.wanted,hgd]
 rw [if_pos hw]
 obtain ⟨v',w',hrun,h2,h3,h4⟩:=run_append_rd (P:=P) w base t o.type e i z size bytes ht hi hz hsize hby hzs hsz v n xs hown A m c news hr h1 h63 hbytes hbase
 unfold Oper.wp execOp
 simp only [ho,resolve,invoke,builtin,Sem.run_bind,Sem.run_pure,Result.andThen_ok,List.map_toArray,List.map_cons,List.map_nil,hs,hx,hrun]
 exact h v' w' h2 h3 h4
theorem Ints.drop {w:World} {A:Option Addr} {n:Nat} {l:List Int} (h:Ints w A n l) {ad:Addr} (e:A=some ad) {k:Nat} (hk:k≤n):Ints w (some (ad.add k)) (n - k) (l.drop k):=by
 subst e
 refine ⟨by rw [List.length_drop,←h.1],by simp [intCells];have:=h.1;omega,fun h0=>?_⟩
 obtain ⟨ad',e,hc⟩:=h.2.2 (by omega)
 injection e with e
 subst e
 refine ⟨_,rfl,fun j u hu=>?_⟩
 rw [intCells,List.map_drop,List.getElem?_drop] at hu
 rw [add_add]
 exact hc (k + j) u hu
theorem own_lit {w:World} {base g:Nat} {e:TypeId} {size:Nat} (h:w.heap[g]? = some (.cells #[] e (0,0))) (hb:base≤g):w.ownsRow base e size (.slice (some ⟨g,0,none⟩) 0 0) 0 [] :=
 ⟨by simp,.inr ⟨g,0,#[],rfl,hb,h,Nat.le_refl _,by simp [maxLen],by simp,by simp⟩⟩
theorem drop_of_some {α:Type} {l:List α} {k:Nat} {a:α} (h:l[k]? = some a):l.drop k=a :: l.drop (k + 1):=by
 obtain ⟨hk,e⟩:=List.getElem?_eq_some_iff.1 h
 rw [List.drop_eq_getElem_cons hk,e]
namespace K
def ordGo (n:Int):Int→List Int→Bool
 | _,[]=>true
 | p,k :: rest=>decide (0≤k) && (decide (k < n) && (decide (p < k) && ordGo n k rest))
def set31 (l:List Int) (n:Int):Bool:=ordGo n (-1) l && decide (l.length≤6)
theorem ordGo_sorted {n:Int}:∀ (l:List Int) (p:Int),ordGo n p l=true→(∀ x ∈ l,0≤x∧x < n)∧(∀ x ∈ l,p < x)∧l.Nodup
 | [],_,_=>⟨by simp,by simp,List.nodup_nil⟩
 | i :: l,p,h=>by
  simp only [ordGo,Bool.and_eq_true,decide_eq_true_eq] at h
  obtain ⟨h1,h2,h3⟩:=ordGo_sorted l i h.2.2.2
  refine ⟨fun x hx=>?_,fun x hx=>?_,List.nodup_cons.2 ⟨fun hi=>by have:=h2 i hi;omega,h3⟩⟩
  ·rcases List.mem_cons.1 hx with rfl | hx
   ·exact ⟨h.1,h.2.1⟩
   ·exact h1 x hx
  ·rcases List.mem_cons.1 hx with rfl | hx
   ·exact h.2.2.1
   ·have:=h2 x hx;have:=h.2.2.1;omega
theorem setGo_ord {nd:Int} {r:List Q}:∀ (l:List Int) (p:Int),setGo nd r p l=(ordGo (r.length:Int) p l && l.all fun i=>decide ((req r i).node < nd))
 | [],_=>rfl
 | i :: l,p=>by
  simp only [setGo,ordGo,List.all_cons,setGo_ord l i]
  cases decide (0≤i) <;> cases decide (i < (r.length:Int)) <;> cases decide (p < i) <;> cases decide ((req r i).node < nd) <;> simp
theorem ok31_eq (nd:Int) (l:List Ro) (s:S) (r:List Q) (v:List Int):ok31 nd l s r v=(set31 v (r.length:Int) && right nd l s r v):=by
 unfold ok31 set31 right
 rw [setGo_ord]
 cases h1:ordGo (r.length:Int) (-1) v
 ·simp
 ·obtain ⟨a,-,c⟩:=ordGo_sorted _ _ h1
  have hs:T.isSet (r.length:Int) v=true:=T.isSet_iff.2 ⟨a,c⟩
  unfold T.load
  rw [hs]
  cases (netErr nd l == 0) <;> cases (T.check s == 0) <;> cases decide (s.depot < nd) <;> cases (r.any fun q=>!T.right q) <;> cases decide (v.length≤6) <;> simp
end K
namespace K
structure St where
 bits:Nat
 a:Int
 t:Int
 stops:List Int
 times:List Int
def late (best:Option Tr) (t:Int):Bool:=match best with | none=>false | some b=>decide (b.end_≤t)
def better (best:Option Tr) (e:Int):Bool:=match best with | none=>true | some b=>decide (e < b.end_)
def home (nd:Int) (l:List Ro) (s:S) (r:List Q) (v:List Int) (st:St) (best:Option Tr):Option Tr :=
 if way nd l st.a (T.weight s r (part v st.bits)) s.depot ≠ -1∧st.t + way nd l st.a (T.weight s r (part v st.bits)) s.depot≤s.end_∧better best (st.t + way nd l st.a (T.weight s r (part v st.bits)) s.depot)=true
 then some ⟨st.stops,st.times,st.t + way nd l st.a (T.weight s r (part v st.bits)) s.depot⟩ else best
def onward (nd:Int) (l:List Ro) (s:S) (r:List Q) (v:List Int) (st:St) (i:Nat) (k:Int):Option St :=
 if st.bits.testBit i=true then none
 else if way nd l st.a (T.weight s r (part v st.bits)) (req r k).node=-1 then none
 else if (begins s r (req r k) (part v (st.bits + 2 ^ i)) (st.t + way nd l st.a (T.weight s r (part v st.bits)) (req r k).node)).2=false then none
 else some ⟨st.bits + 2 ^ i,(req r k).node,(begins s r (req r k) (part v (st.bits + 2 ^ i)) (st.t + way nd l st.a (T.weight s r (part v st.bits)) (req r k).node)).1 + (req r k).service,
  st.stops ++ [k],st.times ++ [(begins s r (req r k) (part v (st.bits + 2 ^ i)) (st.t + way nd l st.a (T.weight s r (part v st.bits)) (req r k).node)).1]⟩
def seek (nd:Int) (l:List Ro) (s:S) (r:List Q) (v:List Int):Nat→St→Option Tr→Option Tr
 | 0,_,best=>best
 | f + 1,st,best =>
  if late best st.t=true then best
  else if st.bits=2 ^ v.length - 1 then home nd l s r v st best
  else go (seek nd l s r v f) nd l s r v st best 0 v
where
 go (rec:St→Option Tr→Option Tr) (nd:Int) (l:List Ro) (s:S) (r:List Q) (v:List Int) (st:St) (best:Option Tr) (i:Nat):List Int→Option Tr
  | []=>best
  | k :: rest=>match onward nd l s r v st i k with
   | none=>go rec nd l s r v st best (i + 1) rest
   | some st'=>go rec nd l s r v st (rec st' best) (i + 1) rest
def best (nd:Int) (l:List Ro) (s:S) (r:List Q) (v:List Int):Option Tr:=seek nd l s r v (2 ^ v.length) ⟨0,s.depot,s.start,[],[]⟩ none
end K
structure But3 (w w':World) (mb gb gf:Nat):Prop where
 os:w'.os=w.os
 tape:w'.tape=w.tape
 output:w'.output=w.output
 size:w.heap.size≤w'.heap.size
 block:∀ k,k < w.heap.size→k ≠ mb→k ≠ gb→k ≠ gf→w'.heap[k]? = w.heap[k]?
theorem But3.of {w w':World} {mb gb gf:Nat} (h:w.grownBy w' (some mb)):But3 w w' mb gb gf:=⟨h.os,h.tape,h.output,h.size,fun k hk hne _ _=>h.block k hk (fun e=>hne (by injection e))⟩
theorem But3.refl (w:World) (mb gb gf:Nat):But3 w w mb gb gf:=⟨rfl,rfl,rfl,Nat.le_refl _,fun _ _ _ _ _=>rfl⟩
theorem But3.trans {w w1 w2:World} {mb gb gf:Nat} (h:But3 w w1 mb gb gf) (h2:But3 w1 w2 mb gb gf):But3 w w2 mb gb gf :=
 ⟨h2.os.trans h.os,h2.tape.trans h.tape,h2.output.trans h.output,Nat.le_trans h.size h2.size,fun k hk a b c=>(h2.block k (Nat.lt_of_lt_of_le hk h.size) a b c).trans (h.block k hk a b c)⟩
theorem But3.below {w w1 w2:World} {mb gb gf:Nat} (h:But3 w w1 mb gb gf) (h2:Below w1.heap.size w1 w2):But3 w w2 mb gb gf :=
 h.trans ⟨h2.os,h2.tape,h2.output,h2.size,fun k hk _ _ _=>h2.block k hk⟩
theorem But3.set {w w':World} {mb gb gf g:Nat} (h:But3 w w' mb gb gf) (hg:g=gb∨g=gf) (i:Nat) (v:Value):But3 w (w'.setCell ⟨g,i,none⟩ v) mb gb gf :=
 ⟨h.os,h.tape,h.output,by rw [World.size_setCell];exact h.size,fun k hk a b c=>(Below.heap_setCell w' _ _ k (by rcases hg with rfl | rfl <;> assumption)).trans (h.block k hk a b c)⟩
structure BestAt (w:World) (gb gf:Nat) (best:Option K.Tr):Prop where
 found:w.heap[gf]? = some (.cells #[.bool best.isSome] 4 (0,0))
 blk:∃ A n c A' n' c' e,TBlk w gb 0 (.slice A n c) (.slice A' n' c') e∧∀ b,best=some b→Ints w A n b.stops∧Ints w A' n' b.times∧e=b.end_∧(∀ ad,A=some ad→gb < ad.block∧gf < ad.block)∧(∀ ad,A'=some ad→gb < ad.block∧gf < ad.block)∧n≤c∧n'≤c'
theorem BestAt.ext {w w':World} {gb gf:Nat} {best:Option K.Tr} (h:BestAt w gb gf best) (hx:Ext w w'):BestAt w' gb gf best:=by
 obtain ⟨A,n,c,A',n',c',e,hT,hb⟩:=h.blk
 exact ⟨hx.cells _ _ _ _ h.found,A,n,c,A',n',c',e,hx.cells _ _ _ _ hT,fun b e=>by
  obtain ⟨h1,h2,h3⟩:=hb b e
  exact ⟨h1.ext hx,h2.ext hx,h3⟩⟩
theorem BestAt.ne {w:World} {gb gf:Nat} {best:Option K.Tr} (h:BestAt w gb gf best):gb ≠ gf:=fun e=>by
 obtain ⟨A,n,c,A',n',c',e',hT,-⟩:=h.blk
 have h1:=h.found
 rw [←e] at h1
 have h2:=hT.symm.trans h1
 injection h2 with h2
 injection h2 with h2
 simp at h2
end Go.Proofs.YtippdjmpkafifaaGreat
