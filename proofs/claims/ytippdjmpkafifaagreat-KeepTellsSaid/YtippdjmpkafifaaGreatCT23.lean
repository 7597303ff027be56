import Derived.Test.YtippdjmpkafifaaGreatCT22
set_option maxRecDepth 100000
set_option maxHeartbeats 64000000
namespace Go.Proofs.YtippdjmpkafifaaGreat
open Go.ChangeShapes Go.WideShapes Go.Deep Go.RowKit
section
variable {H : Type} {enc : TypeId × Value -> H} {W : World} {base b0 : Nat} {spare : Nat -> Bool} {held : Bool} {r : Reach}
theorem akU {v:Value} {d:DataW H} {ps:List MemPlace} (hval:Value.okWide Tryz.prog W r base 44 v) (h:DataW.Trod enc Tryz.prog W b0 spare held 44 v d ps):∃ nd A n c l SA sn sc ss B m k r,v=.agg #[.int .i64 nd,.slice A n c,.slice SA sn sc,.slice B m k]/\jf W A n l/\Shifts W SA sn ss/\bW W B m r/\((d.weights Tryz.prog 44).all (·<=reachBytes)=true->m * 72<=140737488351232):=by
 obtain ⟨cs,rfl,hsz⟩:=okWide_struct Tryz.underlying44 hval;obtain ⟨fuel,hf⟩:=h;obtain ⟨ys,n',_,hxx,hlen,hyl,hfl⟩:=DataW.trod_struct Tryz.underlying44 hf;rw [show Tryz.prog.cellsOf 44=4 by kernel_rfl] at hsz;obtain ⟨v0,v1,v2,v3,rfl⟩:∃ v0 v1 v2 v3,cs=#[v0,v1,v2,v3]:=by
  obtain ⟨l⟩:=cs;rcases l with _ | ⟨v0,_ | ⟨v1,_ | ⟨v2,_ | ⟨v3,_ | ⟨v4,l⟩⟩⟩⟩⟩ <;> simp at hsz
  exact ⟨_,_,_,_,rfl⟩
 have get:∀ i,i < ys.length->∃ y,ys[i]? = some y:=λi hi=>⟨_,zF hi⟩;have hy:ys.length=3:=hyl;have C24:Tryz.prog.cellsOf 24=2:=by kernel_rfl
 have C25:Tryz.prog.cellsOf 25=1:=by kernel_rfl
 have C26:Tryz.prog.cellsOf 26=1:=by kernel_rfl
 have t0:=hfl 0 _ rfl;obtain ⟨y0,g0⟩:=get 0 (by omega);rw [g0] at t0;have t1:=hfl 1 _ rfl;obtain ⟨y1,g1⟩:=get 1 (by omega);rw [g1] at t1;have t2:=hfl 2 _ rfl;obtain ⟨y2,g2⟩:=get 2 (by omega);rw [g2] at t2;simp [C24,C25,C26,Value.cells] at t0 t1 t2;obtain ⟨zs,n2,_,_,_,hzl,Jy⟩:=DataW.trod_struct Tryz.underlying24 t0;have hz:zs.length=2:=hzl;have C3:Tryz.prog.cellsOf 3=1:=by kernel_rfl
 have C22:Tryz.prog.cellsOf 22=1:=by kernel_rfl
 have s0:=Jy 0 _ rfl;have s1:=Jy 1 _ rfl;obtain ⟨z0,k0⟩:∃ y,zs[0]? = some y:=⟨_,zF (by omega)⟩;obtain ⟨z1,k1⟩:∃ y,zs[1]? = some y:=⟨_,zF (by omega)⟩;rw [k0] at s0;rw [k1] at s1;simp [C3,C22] at s0 s1;obtain ⟨nd,e0,_⟩:=DataW.trod_int Tryz.underlying3 s0;obtain ⟨A,n,c,l,e1,hR⟩:=aiG s1;obtain ⟨SA,sn,sc,ss,e2,hS,-⟩:=ajp t1;obtain ⟨B,m,k,r,e3,hQ⟩:=aio t2;have hw:∀ ds:List (DataW H),ds[2]? = some y2.1->(DataW.weightsEach Tryz.prog [24,25,26] ds).all (·<=reachBytes)=true->m * 72<=140737488351232:=λds hd hall=>by
  rcases xq Tryz.underlying26 Tryz.underlying47 (by kernel_rfl) (by kernel_rfl) t2 with ⟨hcs,_⟩ | ⟨a,len,cap,m',D,Pl,hcs,_,hlc,_,hm,hx,_⟩
  ·rw [e3] at hcs;injection hcs with hcs;injection hcs with _ h1 _;rw [h1];decide
  ·rw [e3] at hcs;injection hcs with hcs;injection hcs with _ h1 _;rw [hx] at hd;have h2:=sized_slice hall (j:=2) (t:=26) rfl hd Tryz.underlying26;rw [List.length_map,List.length_range,show Tryz.prog.bytesOf 47=72 by kernel_rfl,<-h1] at h2;have h3:reachBytes=140737488351232:=rfl;omega
 simp at e0 e1 e2;subst e0 e1 e2;subst e3;exact ⟨nd,A,n,c,l,SA,sn,sc,ss,B,m,k,r,rfl,hR,hS,hQ,λh=>hw (ys.map (·.1)) (by rw [List.getElem?_map,g2];rfl) (by
  rw [show d=.agg (ys.map (·.1)) from congrArg Prod.fst hxx] at h;simpa [DataW.weights,Tryz.underlying44] using h)⟩
end
end Go.Proofs.YtippdjmpkafifaaGreat
namespace Go.Proofs.YtippdjmpkafifaaGreat
open Go.ChangeShapes Go.WideShapes Go.Deep Go.RowKit
section
variable {H : Type} {enc : TypeId × Value -> H} {W : World} {base b0 : Nat} {spare : Nat -> Bool} {held : Bool} {r : Reach}
theorem aie {fuel:Nat} {v:Value} {x:DataW H × List MemPlace} (hf:DataW.trod enc Tryz.prog W b0 spare held fuel 65 [v] = some x):∃ A n c l,v=.slice A n c/\lD W A n l/\∀ y ∈ l,y.n<=y.c/\∀ b ∈ y.bl,b.vn<=b.vc:=by
 rcases open_slice Tryz.underlying65k hf with ⟨hcs,_⟩ | ⟨a,len,cap,m,n,D,Pl,hcs,_,hlc,_,hm,_,hcell⟩
 ·simp at hcs;subst hcs;exact ⟨none,0,0,[],rfl,⟨⟨rfl,rfl,λh0=>absurd h0 (by omega)⟩,λq hq=>by cases hq⟩,λq hq=>by cases hq⟩
 ·simp at hcs;subst hcs;have hC:Tryz.prog.cellsOf 28=1:=by kernel_rfl
  have hlm:len<=m:=by rw [hm];split <;> omega
  have key:∀ i,i < len->∃ q:RV,(fA W q.A q.n q.bl/\(q.n<=q.c/\∀ b ∈ q.bl,b.vn<=b.vc))/\∀ j u,(RV.cells q)[j]? = some u->W.cell? (a.add (i * 1 + j))=some u:=by
   intro i hi;obtain ⟨cs',hc,ht'⟩:=hcell i (by omega);rw [hC,Nat.mul_one] at hc;obtain ⟨_,hcl,hat⟩:=World.cells?_some hc;obtain ⟨v1,rfl⟩:=List.length_eq_one_iff.1 hcl;obtain ⟨A1,m1,c1,l1,rfl,hB,hc1,hv⟩:=adh ht';have h0:=hat 0 (by omega);rw [Go.Deep.add_add,Nat.add_zero] at h0;refine ⟨⟨A1,m1,c1,l1⟩,⟨hB,hc1,hv⟩,?_⟩;intro j u hu;rcases j with _ | j <;> simp [RV.cells] at hu
   subst hu;rw [Nat.mul_one,Nat.add_zero];exact h0
  obtain ⟨l,hl,hq⟩:=sF key;have hall:∀ q ∈ l,fA W q.A q.n q.bl/\(q.n<=q.c/\∀ b ∈ q.bl,b.vn<=b.vc):=λq hq'=>by
   obtain ⟨i,hi⟩:=List.mem_iff_getElem?.1 hq';exact (hq i q hi).1
  exact ⟨_,_,_,l,rfl,⟨⟨hl.symm,by rw [oD RV.cells 1 (λ_=>rfl),hl],λ_=>⟨a,rfl,Ih RV.cells 1 (λ_=>rfl) (by omega) λi q hi=>(hq i q hi).2⟩⟩,λq h=>(hall q h).1⟩,λq h=>(hall q h).2⟩
theorem akV {v:Value} {d:DataW H} {ps:List MemPlace} (hval:Value.okWide Tryz.prog W r base 65 v) (h:DataW.Trod enc Tryz.prog W b0 spare held 65 v d ps):∃ A n c l,v=.slice A n c/\lD W A n l/\∀ y ∈ l,y.n<=y.c/\∀ b ∈ y.bl,b.vn<=b.vc:=by
 obtain ⟨a0,len,cap,rfl⟩:=okWide_slice Tryz.underlying65k hval;obtain ⟨fuel,hf⟩:=h;exact aie hf
end
end Go.Proofs.YtippdjmpkafifaaGreat
