/- From the listed variables (four: the tables of math/bits and of strconv, the handle of errors) to their cells; a world that meets the condition. -/
import Derived.Test.YtjbpkmmpbhngbaaGreatDoorLaid
import Derived.Test.YtjbpkmmpbhngbaaGreatDoorLaidK
import Derived.Test.YtjbpkmmpbhngbaaGreatDoorLog2
namespace Go.Proofs.YtjbpkmmpbhngbaaGreatDoor
open Go.ChangeShapes Go.WideShapes Go.RowKit

theorem Tryz.handle_of_laidT {l : List (String × DataW Unit)} {W : World} (h : laidMetH Tryz.prog l W) (hx : ("errors.errorType", Rows.laid_errors_errorType) ∈ l) : ErrT W := by
  obtain ⟨name, u, ty, e1, e2, e3, e4, e5⟩ := laidH_handle h hx rfl rfl
  have en : name = [101, 114, 114, 111, 114] := (Option.some.inj e1).symm
  subst en
  obtain rfl := Option.some.inj (Tryz.rt.symm.trans e2)
  have hm : ty ∈ (List.range Tryz.prog.types.size).filter fun t => Tryz.prog.rowNamed t [101, 114, 114, 111, 114] := List.mem_filter.2 ⟨List.mem_range.2 e3, e4⟩
  rw [Tryz.oneRow] at hm
  obtain rfl := List.mem_singleton.1 hm
  have hh : typeHandle Tryz.prog 27 = .pointer (some ⟨14, 27, none⟩) := by kernel_rfl
  rw [hh] at e5
  simpa [ErrT] using World.var?_cell Tryz.et e5 0
theorem pow_data : (Rows.laid_internal_strconv_uint64pow10 : DataW Unit) = Lib.tabData .u64 Lib.pow10Tab := by kernel_rfl
theorem Tryz.tab_of_laidT {l : List (String × DataW Unit)} {W : World} (h : laidMetH Tryz.prog l W) (hx : ("internal/strconv.uint64pow10", Rows.laid_internal_strconv_uint64pow10) ∈ l) : TabW W :=
  laidH_tab h (by rw [← pow_data]; exact hx) Tryz.powG (t := 216) (e := 180) (n := 20) (by kernel_rfl) (by kernel_rfl) (by kernel_rfl) (by kernel_rfl) (by kernel_rfl)
/-- the cells of the tables -/
def tabCells (k : IntKind) (zs : List Int) : Array Value := (zs.map fun z => Value.int k z).toArray
def deB32 : List Int := [0, 1, 28, 2, 29, 14, 24, 3, 30, 22, 20, 15, 25, 17, 4, 8, 31, 27, 13, 23, 21, 19, 16, 7, 26, 12, 18, 6, 11, 5, 10, 9]
def deB64 : List Int := [0, 1, 56, 2, 57, 49, 28, 3, 61, 58, 42, 50, 38, 29, 17, 4, 62, 47, 59, 36, 45, 43, 51, 22, 53, 39, 33, 30, 24, 18, 12, 5, 63, 55, 48, 27, 60, 41, 37, 16, 46, 35, 44, 21, 52, 32, 23, 11, 54, 26, 40, 15, 34, 20, 31, 10, 25, 14, 19, 9, 13, 8, 7, 6]
def setVar (h : Array Obj) (g : Nat) (cs : Array Value) : Array Obj := h.modify g fun
  | .cells _ t frozen => .cells cs t frozen
  | o => o
noncomputable def Tryz.laidWorldT (os : Os) : World :=
  let w0 := World.holding Tryz.prog os ⟨#[], #[], []⟩
  { w0 with heap := setVar (setVar (setVar (setVar w0.heap 1 #[.iface 191 (.agg #[.pointer (some ⟨14, 27, none⟩)])])
      5 (tabCells .u64 Lib.pow10Tab)) 9 (tabCells .u8 deB32)) 10 (tabCells .u8 deB64) }
end Go.Proofs.YtjbpkmmpbhngbaaGreatDoor
