import Derived.Test.YtippdjmpkafifaaGreatCR15
import Derived.Test.YtippdjmpkafifaaGreatCR23
set_option maxRecDepth 100000
set_option maxHeartbeats 64000000
namespace Go.Proofs.YtippdjmpkafifaaGreat
open Go.RowKit
section
open Go.ChangeShapes Go.WideShapes Go.Deep Go.RowKit
section
variable {H : Type} {enc : TypeId × Value -> H} {W : World} {base b0 : Nat} {spare : Nat -> Bool} {held : Bool} {r : Reach}
theorem anJ {v:Value} {d:DataW H} {ps:List MemPlace} (hval:Value.okWide Tryz.prog W r base 44 v) (h:DataW.Trod enc Tryz.prog W b0 spare held 44 v d ps):∃ nd A n c l SA sn sc ss B m k r,v=.agg #[.int .i64 nd,.slice A n c,.slice SA sn sc,.slice B m k]/\gq W A n l/\Shifts W SA sn ss/\dm W B m r/\((d.weights Tryz.prog 44).all (·<=reachBytes)=true->m * 72<=140737488351232):=by
 obtain ⟨cs,rfl,hsz⟩:=okWide_struct Tryz.underlying44 hval;obtain ⟨fuel,hf⟩:=h;obtain ⟨ys,n',_,hxx,hlen,hyl,hfl⟩:=DataW.trod_struct Tryz.underlying44 hf;rw [show Tryz.prog.cellsOf 44=4 by kernel_rfl] at hsz;obtain ⟨v0,v1,v2,v3,rfl⟩:∃ v0 v1 v2 v3,cs=#[v0,v1,v2,v3]:=by
  obtain ⟨l⟩:=cs;rcases l with _ | ⟨v0,_ | ⟨v1,_ | ⟨v2,_ | ⟨v3,_ | ⟨v4,l⟩⟩⟩⟩⟩ <;> simp at hsz
  exact ⟨_,_,_,_,rfl⟩
 have get:∀ i,i < ys.length->∃ y,ys[i]? = some y:=λi hi=>⟨_,zF hi⟩;have hy:ys.length=3:=hyl;have C24:Tryz.prog.cellsOf 24=2:=by kernel_rfl
 have C25:Tryz.prog.cellsOf 25=1:=by kernel_rfl
 have C26:Tryz.prog.cellsOf 26=1:=by kernel_rfl
 have t0:=hfl 0 _ rfl;obtain ⟨y0,g0⟩:=get 0 (by omega);rw [g0] at t0;have t1:=hfl 1 _ rfl;obtain ⟨y1,g1⟩:=get 1 (by omega);rw [g1] at t1;have t2:=hfl 2 _ rfl;obtain ⟨y2,g2⟩:=get 2 (by omega);rw [g2] at t2;simp [C24,C25,C26,Value.cells] at t0 t1 t2;obtain ⟨zs,n2,_,_,_,hzl,Nh⟩:=DataW.trod_struct Tryz.underlying24 t0;have hz:zs.length=2:=hzl;have C3:Tryz.prog.cellsOf 3=1:=by kernel_rfl
 have C22:Tryz.prog.cellsOf 22=1:=by kernel_rfl
 have s0:=Nh 0 _ rfl;have s1:=Nh 1 _ rfl;obtain ⟨z0,k0⟩:∃ y,zs[0]? = some y:=⟨_,zF (by omega)⟩;obtain ⟨z1,k1⟩:∃ y,zs[1]? = some y:=⟨_,zF (by omega)⟩;rw [k0] at s0;rw [k1] at s1;simp [C3,C22] at s0 s1;obtain ⟨nd,e0,_⟩:=DataW.trod_int Tryz.underlying3 s0;obtain ⟨A,n,c,l,e1,hR⟩:=akN s1;obtain ⟨SA,sn,sc,ss,e2,hS,-⟩:=alP t1;obtain ⟨B,m,k,r,e3,hQ⟩:=aky t2;have hw:∀ ds:List (DataW H),ds[2]? = some y2.1->(DataW.weightsEach Tryz.prog [24,25,26] ds).all (·<=reachBytes)=true->m * 72<=140737488351232:=λds hd hall=>by
  rcases zZ Tryz.underlying26 Tryz.underlying47 (by kernel_rfl) (by kernel_rfl) t2 with ⟨hcs,_⟩ | ⟨a,len,cap,m',D,Pl,hcs,_,hlc,_,hm,hx,_⟩
  ·rw [e3] at hcs;injection hcs with hcs;injection hcs with _ h1 _;rw [h1];decide
  ·rw [e3] at hcs;injection hcs with hcs;injection hcs with _ h1 _;rw [hx] at hd;have h2:=sized_slice hall (j:=2) (t:=26) rfl hd Tryz.underlying26;rw [bu,List.length_range,show Tryz.prog.bytesOf 47=72 by kernel_rfl,<-h1] at h2;have h3:reachBytes=140737488351232:=rfl;omega
 simp at e0 e1 e2;subst e0 e1 e2;subst e3;exact ⟨nd,A,n,c,l,SA,sn,sc,ss,B,m,k,r,rfl,hR,hS,hQ,λh=>hw (ys.map (·.1)) (by rw [dG,g2];rfl) (by
  rw [show d=.agg (ys.map (·.1)) from congrArg Prod.fst hxx] at h;simpa [DataW.weights,Tryz.underlying44] using h)⟩
theorem anK {v:Value} {d:DataW H} {ps:List MemPlace} (hval:Value.okWide Tryz.prog W r base 47 v) (h:DataW.Trod enc Tryz.prog W b0 spare held 47 v d ps):∃ q:Q,v=.agg #[.int .i64 q.node,.int .i64 q.room,.int .i64 q.a_,.int .i64 q.service,.int .i64 q.aI,.int .i64 q.aP,.slice q.A q.n q.c]/\dA W q.A q.n q.l:=by
 obtain ⟨cs,rfl,hsz⟩:=okWide_struct Tryz.underlying47 hval;obtain ⟨fuel,hf⟩:=h;obtain ⟨ys,n',_,_,hlen,hyl,hfl⟩:=DataW.trod_struct Tryz.underlying47 hf;rw [show Tryz.prog.cellsOf 47=7 by kernel_rfl] at hsz;obtain ⟨v0,v1,v2,v3,v4,v5,v6,rfl⟩:∃ v0 v1 v2 v3 v4 v5 v6,cs=#[v0,v1,v2,v3,v4,v5,v6]:=by
  obtain ⟨l⟩:=cs;rcases l with _ | ⟨v0,_ | ⟨v1,_ | ⟨v2,_ | ⟨v3,_ | ⟨v4,_ | ⟨v5,_ | ⟨v6,_ | ⟨v7,l⟩⟩⟩⟩⟩⟩⟩⟩ <;> simp at hsz
  exact ⟨_,_,_,_,_,_,_,rfl⟩
 have get:∀ i,i < ys.length->∃ y,ys[i]? = some y:=λi hi=>⟨_,zF hi⟩;have hy:ys.length=7:=hyl;have C3:Tryz.prog.cellsOf 3=1:=by kernel_rfl
 have C45:Tryz.prog.cellsOf 45=1:=by kernel_rfl
 have t0:=hfl 0 _ rfl;obtain ⟨y0,g0⟩:=get 0 (by omega);rw [g0] at t0;have t1:=hfl 1 _ rfl;obtain ⟨y1,g1⟩:=get 1 (by omega);rw [g1] at t1;have t2:=hfl 2 _ rfl;obtain ⟨y2,g2⟩:=get 2 (by omega);rw [g2] at t2;have t3:=hfl 3 _ rfl;obtain ⟨y3,g3⟩:=get 3 (by omega);rw [g3] at t3;have t4:=hfl 4 _ rfl;obtain ⟨y4,g4⟩:=get 4 (by omega);rw [g4] at t4;have t5:=hfl 5 _ rfl;obtain ⟨y5,g5⟩:=get 5 (by omega);rw [g5] at t5;have t6:=hfl 6 _ rfl;obtain ⟨y6,g6⟩:=get 6 (by omega);rw [g6] at t6;simp [C3,C45,Value.cells] at t0 t1 t2 t3 t4 t5 t6;obtain ⟨n0,e0,_⟩:=DataW.trod_int Tryz.underlying3 t0;obtain ⟨n1,e1,_⟩:=DataW.trod_int Tryz.underlying3 t1;obtain ⟨n2,e2,_⟩:=DataW.trod_int Tryz.underlying3 t2;obtain ⟨n3,e3,_⟩:=DataW.trod_int Tryz.underlying3 t3;obtain ⟨n4,e4,_⟩:=DataW.trod_int Tryz.underlying3 t4;obtain ⟨n5,e5,_⟩:=DataW.trod_int Tryz.underlying3 t5;obtain ⟨A,n,c,l,e6,hX⟩:=aer t6;simp at e0 e1 e2 e3 e4 e5 e6;subst e0 e1 e2 e3 e4 e5 e6;exact ⟨⟨n0,n1,n2,n3,n4,n5,A,n,c,l⟩,rfl,hX⟩
theorem anI {v:Value} {d:DataW H} {ps:List MemPlace} (hval:Value.okWide Tryz.prog W r base 50 v) (h:DataW.Trod enc Tryz.prog W b0 spare held 50 v d ps):∃ a:AV,v=.agg #[.bool a.acc,.slice a.PA a.pn a.pc,.slice a.VA a.vn a.vc,.slice a.RA a.rn a.rc]/\jZ W a/\(∀ y ∈ a.bl,y.vn<=y.vc)/\∀ y ∈ a.ts,y.n<=y.c:=by
 obtain ⟨cs,rfl,hsz⟩:=okWide_struct Tryz.underlying50 hval;obtain ⟨fuel,hf⟩:=h;obtain ⟨ys,n',_,_,hlen,hyl,hfl⟩:=DataW.trod_struct Tryz.underlying50 hf;rw [show Tryz.prog.cellsOf 50=4 by kernel_rfl] at hsz;obtain ⟨v0,v1,v2,v3,rfl⟩:∃ v0 v1 v2 v3,cs=#[v0,v1,v2,v3]:=by
  obtain ⟨l⟩:=cs;rcases l with _ | ⟨v0,_ | ⟨v1,_ | ⟨v2,_ | ⟨v3,_ | ⟨v4,l⟩⟩⟩⟩⟩ <;> simp at hsz
  exact ⟨_,_,_,_,rfl⟩
 have get:∀ i,i < ys.length->∃ y,ys[i]? = some y:=λi hi=>⟨_,zF hi⟩;have hy:ys.length=4:=hyl;have C4:Tryz.prog.cellsOf 4=1:=by kernel_rfl
 have Fe:Tryz.prog.cellsOf 27=1:=by kernel_rfl
 have C28:Tryz.prog.cellsOf 28=1:=by kernel_rfl
 have C48:Tryz.prog.cellsOf 48=1:=by kernel_rfl
 have t0:=hfl 0 _ rfl;obtain ⟨y0,g0⟩:=get 0 (by omega);rw [g0] at t0;have t1:=hfl 1 _ rfl;obtain ⟨y1,g1⟩:=get 1 (by omega);rw [g1] at t1;have t2:=hfl 2 _ rfl;obtain ⟨y2,g2⟩:=get 2 (by omega);rw [g2] at t2;have t3:=hfl 3 _ rfl;obtain ⟨y3,g3⟩:=get 3 (by omega);rw [g3] at t3;simp [C4,Fe,C28,C48,Value.cells] at t0 t1 t2 t3;obtain ⟨acc,e0,_⟩:=DataW.trod_bool Tryz.underlying4 t0;obtain ⟨PA,pn,pc,ts,e1,hT,-,hy⟩:=amf t1;obtain ⟨VA,vn,vc,iv,e2,hV,-⟩:=Gx t2;obtain ⟨RA,rn,rc,bl,e3,hB,-,hb⟩:=afv t3;simp at e0 e1 e2 e3;subst e0 e1 e2 e3;exact ⟨⟨acc,PA,pn,pc,ts,VA,vn,vc,iv,RA,rn,rc,bl⟩,rfl,⟨hT,hV,hB⟩,hb,λy h=>(hy y h).1⟩
end
end
end Go.Proofs.YtippdjmpkafifaaGreat
