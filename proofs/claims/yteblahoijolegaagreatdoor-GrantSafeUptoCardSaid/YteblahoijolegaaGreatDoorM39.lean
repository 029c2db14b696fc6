import Derived.Test.YteblahoijolegaaGreatDoorM38
import Derived.Test.YteblahoijolegaaGreatDoorM20
import Derived.Test.YteblahoijolegaaGreatDoorM35
import Derived.Test.YteblahoijolegaaGreatDoorCards
import Derived.Test.YteblahoijolegaaGreatDoorTie
import Derived.ProofKit
import Derived.Deep.DeepHandedRow
import Derived.Lib.LaidTab
import Derived.Stop.LaidErr
section
set_option linter.all false
namespace Go.Proofs.YteblahoijolegaaGreatDoor
open Go.ChangeShapes Go.WideShapes Go.ChangeAt Go.RowKit
set_option maxRecDepth 100000

theorem row_own : ownKnob Tryz.prog.godebug = none := by kernel_rfl
theorem row_laidOut : laidOutB Tryz.prog = true := by kernel_rfl
theorem cells_ask : Tryz.prog.cellsOf 41 = 5 := by kernel_rfl
/-- a question that came in -/
theorem rd_ask {H : Type} {enc : TypeId × Value → H} {w : World} {base : Nat} {sp : Nat → Bool} {hd : Bool} {r : Reach} {b0 : Nat} {v : Value} {d : DataW H} {ps : List MemPlace} (hval : Value.okWide Tryz.prog w r b0 41 v) (h : DataW.Trod enc Tryz.prog w base sp hd 41 v d ps) :
    ∃ (wk x y : Int) (p n : ByteArray), v = askV wk x y p n ∧ p.size + n.size ≤ Rows.uptoBulk d := by
  obtain ⟨⟨cs⟩, rfl, hsz⟩ := okWide_struct Tryz.underlying41 hval
  obtain ⟨fuel, hf⟩ := h
  have hf' : DataW.trod enc Tryz.prog w base sp hd fuel 41 cs = some (d, ps) := by simpa [Value.cells] using hf
  obtain ⟨xs, m, rfl, hx, hl, hlen, hfi⟩ := DataW.trod_struct Tryz.underlying41 hf'
  simp only [Prod.mk.injEq] at hx
  obtain ⟨rfl, -⟩ := hx
  rw [cells_ask] at hl
  clear hf hf' hsz
  match cs, hl, xs, hlen with
  | [c0, c1, c2, c3, c4], _, [y0, y1, y2, y3, y4], _ =>
    have h0 := hfi 0 _ rfl
    have h1 := hfi 1 _ rfl
    have h2 := hfi 2 _ rfl
    have h3 := hfi 3 _ rfl
    have h4 := hfi 4 _ rfl
    simp only [cells_one_str, cells_one_int, List.drop_zero, List.drop_succ_cons, List.take_succ_cons, List.take_zero, List.getElem?_cons_zero, List.getElem?_cons_succ] at h0 h1 h2 h3 h4
    obtain ⟨a, e0⟩ := rd_int h0
    obtain ⟨b, e1⟩ := rd_int h1
    obtain ⟨c, e2⟩ := rd_int h2
    obtain ⟨s, e3, hs⟩ := rd_str h3
    obtain ⟨t, e4, ht⟩ := rd_str h4
    cases e0; cases e1; cases e2; cases e3; cases e4
    exact ⟨a, b, c, s, t, rfl, by simp only [Rows.uptoBulk, Rows.uptoBulkAll, List.map_cons]; omega⟩
/-- the tables, as the rows list them -/
def laidL : List (String × DataW Unit) := [("math/bits.deBruijn32tab", Rows.laid_math_bits_deBruijn32tab), ("math/bits.deBruijn64tab", Rows.laid_math_bits_deBruijn64tab), ("internal/strconv.uint64pow10", Rows.laid_internal_strconv_uint64pow10), ("unicode/utf8.acceptRanges", Rows.laid_unicode_utf8_acceptRanges), ("unicode/utf8.first", Rows.laid_unicode_utf8_first)]
theorem gl0 : Tryz.prog.globalNamed "math/bits.deBruijn32tab" = some 0 := by kernel_rfl
theorem gl2 : Tryz.prog.globalNamed "internal/strconv.uint64pow10" = some 2 := by kernel_rfl
theorem gl0t : (Tryz.prog.globals[0]?).map (·.type) = some 280 := by kernel_rfl
theorem gl2t : (Tryz.prog.globals[2]?).map (·.type) = some 312 := by kernel_rfl
theorem cl32 : Tryz.prog.cellsOf 280 = 32 := by kernel_rfl
theorem cl20 : Tryz.prog.cellsOf 312 = 20 := by kernel_rfl
theorem clu8 : Tryz.prog.cellsOf 5 = 1 := by kernel_rfl
theorem clu64 : Tryz.prog.cellsOf 295 = 1 := by kernel_rfl
theorem gl_of_laid {W : World} (h : laidMet Tryz.prog laidL W) : GlAt W := by
  have t0 : Lib.TabIs Tryz.prog W "math/bits.deBruijn32tab" .u8 (dbTab.map fun x : Nat => (x : Int)) := Lib.tabIs_of_head (rest := _) gl0 gl0t Tryz.underlying280 Tryz.underlying5 clu8 cl32 h
  have t2 : Lib.TabIs Tryz.prog W "internal/strconv.uint64pow10" .u64 Lib.pow10Tab := Lib.tabIs_of_head (rest := _) gl2 gl2t Tryz.underlying312 Tryz.underlying295 clu64 cl20 h.tail.tail
  refine ⟨fun i hi => ?_, t2⟩
  have := t0.cell gl0 i (by simp [dbTab]; exact hi)
  rw [this]
  congr 2
  simp [List.getD]
  cases dbTab[i]? <;> rfl
/-- a world for the witness: the tables laid -/
noncomputable def laidWorld (os : Os) : World :=
  { World.holding Tryz.prog os ⟨#[], #[], []⟩ with heap := ((((((World.holding Tryz.prog os ⟨#[], #[], []⟩).heap.modify 0 fun
      | .cells _ t frozen => .cells (dbTab.map fun x : Nat => Value.int .u8 x).toArray t frozen
      | o => o).modify 3 fun
      | .cells _ t frozen => .cells #[.int .u8 0, .int .u8 1, .int .u8 56, .int .u8 2, .int .u8 57, .int .u8 49, .int .u8 28, .int .u8 3, .int .u8 61, .int .u8 58, .int .u8 42, .int .u8 50, .int .u8 38, .int .u8 29, .int .u8 17, .int .u8 4, .int .u8 62, .int .u8 47, .int .u8 59, .int .u8 36, .int .u8 45, .int .u8 43, .int .u8 51, .int .u8 22, .int .u8 53, .int .u8 39, .int .u8 33, .int .u8 30, .int .u8 24, .int .u8 18, .int .u8 12, .int .u8 5, .int .u8 63, .int .u8 55, .int .u8 48, .int .u8 27, .int .u8 60, .int .u8 41, .int .u8 37, .int .u8 16, .int .u8 46, .int .u8 35, .int .u8 44, .int .u8 21, .int .u8 52, .int .u8 32, .int .u8 23, .int .u8 11, .int .u8 54, .int .u8 26, .int .u8 40, .int .u8 15, .int .u8 34, .int .u8 20, .int .u8 31, .int .u8 10, .int .u8 25, .int .u8 14, .int .u8 19, .int .u8 9, .int .u8 13, .int .u8 8, .int .u8 7, .int .u8 6] t frozen
      | o => o).modify 2 fun
      | .cells _ t frozen => .cells (Lib.pow10Tab.map fun x => Value.int .u64 x).toArray t frozen
      | o => o).modify 5 fun
      | .cells _ t frozen => .cells #[.int .u8 128, .int .u8 191, .int .u8 160, .int .u8 191, .int .u8 128, .int .u8 159, .int .u8 144, .int .u8 191, .int .u8 128, .int .u8 143, .int .u8 0, .int .u8 0, .int .u8 0, .int .u8 0, .int .u8 0, .int .u8 0, .int .u8 0, .int .u8 0, .int .u8 0, .int .u8 0, .int .u8 0, .int .u8 0, .int .u8 0, .int .u8 0, .int .u8 0, .int .u8 0, .int .u8 0, .int .u8 0, .int .u8 0, .int .u8 0, .int .u8 0, .int .u8 0] t frozen
      | o => o).modify 4 fun
      | .cells _ t frozen => .cells (Go.Pinned.utf8FirstZ.map fun x : Nat => Value.int .u8 x).toArray t frozen
      | o => o) }
theorem laid_met (os : Os) (args : Array Value) : laidMet Tryz.prog laidL ((laidWorld os).forCall (fun _ _ => 0) ⟨#[], args, []⟩).memory :=
  laidMet_of_run' 8 (by kernel_rfl) (by kernel_rfl)
/-- the witness: nothing, and no question -/
def witArgs : Array Value := #[.agg #[.slice none 0 0, .slice none 0 0, .slice none 0 0, .slice none 0 0, .slice none 0 0, .slice none 0 0, .slice none 0 0, .slice none 0 0, .slice none 0 0], .agg #[.int .i64 0, .int .i64 0, .int .i64 0, .string ⟨#[]⟩, .string ⟨#[]⟩]]
end Go.Proofs.YteblahoijolegaaGreatDoor
end
