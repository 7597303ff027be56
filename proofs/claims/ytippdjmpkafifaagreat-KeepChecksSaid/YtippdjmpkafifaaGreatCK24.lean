import Derived.Test.YtippdjmpkafifaaGreatCK21
namespace Go.Proofs.YtippdjmpkafifaaGreat
open Go.ChangeShapes Go.WideShapes Go.Deep Go.RowKit
section
variable {H : Type} {enc : TypeId × Value → H} {W : World} {b0 : Nat} {spare : Nat → Bool} {held : Bool}
set_option maxRecDepth 100000 in
theorem book_cap {nd:Int} {A SA B:Option Addr} {n c sn sc m k:Nat} {d:DataW H} {ps:List MemPlace} (h:DataW.Trod enc Tryz.prog W b0 spare held 44 (.agg #[.int .i64 nd,.slice A n c,.slice SA sn sc,.slice B m k]) d ps):m≤k:=by
 obtain ⟨fuel,hf⟩:=h
 obtain ⟨ys,n',_,_,hlen,hyl,hfl⟩:=DataW.trod_struct Tryz.underlying44 hf
 have hy:ys.length=3:=hyl
 have C26:Tryz.prog.cellsOf 26=1:=by kernel_rfl
 have t2:=hfl 2 _ rfl
 obtain ⟨y2,g2⟩:∃ y,ys[2]? = some y:=⟨_,List.getElem?_eq_getElem (by omega)⟩
 rw [g2] at t2
 simp [C26,Value.cells] at t2
 rcases open_slice_fields Tryz.underlying26 Tryz.underlying47 (by kernel_rfl) (by kernel_rfl) t2 with ⟨hcs,_⟩ | ⟨a,len,cap,m',D,Pl,hcs,_,hlc,_⟩
 ·injection hcs with hcs
  injection hcs with _ h1 h2
  omega
 ·injection hcs with hcs
  injection hcs with _ h1 h2
  omega
end
end Go.Proofs.YtippdjmpkafifaaGreat
