/- Lemmas, joined and made smaller by a program. -/
import Derived.Test.YtelgjaiknaalkaaDoorPo17
import Derived.Lib.LaidTab
import Derived.Stop.LaidErr
import Derived.ProofKit
set_option linter.unusedVariables false
set_option linter.unusedSimpArgs false
namespace Go.Proofs.YtelgjaiknaalkaaDoor
open Go.RowKit
theorem gTab:Tryd.prog.globalNamed "math/bits.deBruijn64tab" =some 1:=by kernel_rfl
theorem gTabType:(Tryd.prog.globals[1]?).map (·.type)=some 99:=by kernel_rfl
theorem cellsTab:Tryd.prog.cellsOf 99=64:=by kernel_rfl
theorem cellsByte:Tryd.prog.cellsOf 5=1:=by kernel_rfl
def tabInts:List Int:=Lib.deBruijn64tab.map Int.ofNat
def rowsLaid:List (String×DataW Unit):=[("math/bits.deBruijn32tab",Rows.laid_math_bits_deBruijn32tab),("math/bits.deBruijn64tab",Rows.laid_math_bits_deBruijn64tab)]
theorem tab_eq:(Rows.laid_math_bits_deBruijn64tab:DataW Unit)=Lib.tabData .u8 tabInts:=rfl
theorem tab_at:∀j,j<64→tabInts.getD j 0=((Lib.deBruijn64tab.getD j 0:Nat):Int):=by decide+kernel
theorem tab_of_row{W:World}(h:laidMetH Tryd.prog rowsLaid W):Tab W:=by
 have h1:laidMet Tryd.prog rowsLaid W:=h
 have h2:laidMet Tryd.prog [("math/bits.deBruijn64tab",Lib.tabData .u8 tabInts)] W:=by
  rw[←tab_eq];exact h1.tail
 have h3:Lib.TabIs Tryd.prog W "math/bits.deBruijn64tab" .u8 tabInts:=Lib.tabIs_of_head (rest:=[]) gTab gTabType Tryd.underlying99 Tryd.underlying5 cellsByte cellsTab h2
 intro j hj
 have hj64:j<64:=hj
 have:=h3.cell gTab j (by simpa[tabInts,Lib.deBruijn64tab]using hj64)
 rw[tab_at j hj64]at this
 exact this
def layCells(vs:Array Value):Obj→Obj
 | .cells _ t frozen=> .cells vs t frozen
 |o=>o
noncomputable def laidWorld(os:Os):World:=
 {World.holding Tryd.prog os ⟨#[],#[],[]⟩with heap:=((World.holding Tryd.prog os ⟨#[],#[],[]⟩).heap.modify 0 (layCells (Lib.deBruijn32tab.map fun n=>Value.int .u8 (Int.ofNat n)).toArray)).modify 1 (layCells (Lib.deBruijn64tab.map fun n=>Value.int .u8 (Int.ofNat n)).toArray)}
end Go.Proofs.YtelgjaiknaalkaaDoor
