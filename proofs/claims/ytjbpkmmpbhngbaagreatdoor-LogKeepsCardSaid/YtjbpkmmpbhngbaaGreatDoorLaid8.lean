/- From the listed variables (eight: the tables, the handle of errors, two errors of strconv, the white space) to their cells; a world that meets the condition. -/
import Derived.Test.YtjbpkmmpbhngbaaGreatDoorLaidT
import Derived.Test.YtjbpkmmpbhngbaaGreatDoorLogW
namespace Go.Proofs.YtjbpkmmpbhngbaaGreatDoor
open Go.ChangeShapes Go.WideShapes Go.RowKit

theorem spa_data : (Rows.laid_strings_asciiSpace : DataW Unit) = Lib.tabData .u8 Lib.asciiSpaceTab := by kernel_rfl
theorem Tryz.spa_of_laid {l : List (String × DataW Unit)} {W : World} (h : laidMetH Tryz.prog l W) (hx : ("strings.asciiSpace", Rows.laid_strings_asciiSpace) ∈ l) : SpaW W :=
  laidH_tab h (by rw [← spa_data]; exact hx) Tryz.spaG (t := 186) (e := 5) (n := 256) (by kernel_rfl) (by kernel_rfl) (by kernel_rfl) (by kernel_rfl) (by kernel_rfl)
theorem Tryz.tabs_of_laid {l : List (String × DataW Unit)} {W : World} (h : laidMetH Tryz.prog l W) (h1 : ("errors.errorType", Rows.laid_errors_errorType) ∈ l) (h2 : ("internal/strconv.uint64pow10", Rows.laid_internal_strconv_uint64pow10) ∈ l) (h3 : ("strings.asciiSpace", Rows.laid_strings_asciiSpace) ∈ l) : Tabs W :=
  ⟨Tryz.tab_of_laidT h h2, Tryz.spa_of_laid h h3, Tryz.handle_of_laidT h h1⟩
noncomputable def Tryz.laidWorld8 (os : Os) : World :=
  let w0 := Tryz.laidWorldT os
  let n := w0.heap.size
  let h := setVar (setVar (setVar (setVar w0.heap 4 (tabCells .u8 Lib.asciiSpaceTab))
      8 #[.iface 275 (.pointer (some ⟨n, 0, none⟩))])
      7 #[.iface 275 (.pointer (some ⟨n + 1, 0, none⟩))])
      6 #[.pointer (some ⟨n + 2, 0, none⟩)]
  let o : Array Obj := #[.cells #[.string ⟨#[118, 97, 108, 117, 101, 32, 111, 117, 116, 32, 111, 102, 32, 114, 97, 110, 103, 101]⟩] 277, .cells #[.string ⟨#[105, 110, 118, 97, 108, 105, 100, 32, 115, 121, 110, 116, 97, 120]⟩] 277,
      .cells #[.slice (some ⟨n + 3, 0, none⟩) 7 7, .slice none 0 0, .int .i64 2] 246,
      .cells #[.int .u16 9, .int .u16 13, .int .u16 1, .int .u16 32, .int .u16 133, .int .u16 101, .int .u16 160, .int .u16 5760, .int .u16 5600, .int .u16 8192, .int .u16 8202, .int .u16 1, .int .u16 8232, .int .u16 8233, .int .u16 1, .int .u16 8239, .int .u16 8287, .int .u16 48, .int .u16 12288, .int .u16 12288, .int .u16 1] 249]
  { w0 with heap := h ++ o }
end Go.Proofs.YtjbpkmmpbhngbaaGreatDoor
