import Derived.Test.YteblahoijolegaaGreatDoorM24
import Derived.BigQuiet
import Derived.BigRegion
import Derived.ChangeAlike
import Derived.Deep.DeepCutAuto
import Derived.Deep.Light
import Derived.Deep.LoopGhost
import Derived.Deep.MidRow
import Derived.Deep.QuietTactic
import Derived.Deep.RegionHeld3
import Derived.Deep.WholeRow
import Derived.Defers
import Derived.Great.Walk
import Derived.Laws.BitsAllLaws
import Derived.Laws.CopyOwn
import Derived.Laws.EntriesVeiled
import Derived.Laws.LoneSync
import Derived.Laws.Pointers
import Derived.Laws.StructEq
import Derived.Lib.Hide
import Derived.Lib.LazyBuf
import Derived.Lib.SliceRun
import Derived.LoopIn
import Derived.LoopNIn
import Derived.Maps.AppendAt
import Derived.OwnWalkIn
import Derived.RangeFuncBox
import Derived.RangeFuncKeeps
import Derived.RangeFuncLeaves
import Derived.RangeFuncSeq
import Derived.RegionCalls
import Derived.RegionIn
import Derived.RegionTactic
import Derived.Shelf.Abstract
import Derived.TacticsInMore
import Derived.Test.YteblahoijolegaaGreatDoorShelf
import Derived.WalkKit
import Derived.WalkLawsBesides
import Derived.WalkSpells
import Derived.WideLaws
section
set_option linter.all false
namespace Go.Proofs.YteblahoijolegaaGreatDoor
open Go.RowKit

/-- a wish's parts: the workload, the path, the label, the clearance -/
def wishV (s : Nat) (wk : Int) (p : ByteArray) (l c : Int) : Value := .agg #[.pointer (some ⟨s, 0, none⟩), .int .i64 wk, .string p, .int .i64 l, .int .i64 c]
def grantV (g : ByteArray × Int × Int × Int × ByteArray) : Value := .agg #[.string g.1, .int .i64 g.2.1, .int .i64 g.2.2.1, .int .i64 g.2.2.2.1, .string g.2.2.2.2]
section
variable {w : World} {s : Nat} {q : PolPtr} {P : Pol} {l b bu bd : Nat} {up down : List Nat} {hi : Int}
theorem wish_worked (s : Nat) (wk : Int) (p : ByteArray) (x y : Int) (g : ByteArray × Int × Int × Int × ByteArray) (w : World) :
    Calls Tryz.prog 134 #[wishV s wk p x y, grantV g] w fun e w' => e = .returned (.bool (g.2.1 == wk)) ∧ Below w.heap.size w w' := by
  have hb : Below w.heap.size w ((w.alloc (.cells #[.pointer (some ⟨s, 0, none⟩), .int .i64 wk, .string p, .int .i64 x, .int .i64 y] 149)).alloc (.cells #[.string g.1, .int .i64 g.2.1, .int .i64 g.2.2.1, .int .i64 g.2.2.2.1, .string g.2.2.2.2] 53)) := by (repeat first | exact Below.refl _ _ | assumption | refine Below.alloc ?_ (by simp; try omega) _ | refine Below.drew ?_ | refine Below.drewN ?_ _ | refine Below.setCell ?_ (by simp; try omega) _ | refine Below.trans ?_ (Below.mono (by assumption) (by simp; try omega)))
  have HB := Lib.hid hb; clear hb
  simp only [wishV, grantV]
  go_enter Tryz.func134, Tryz.ntmps134
  go_wp2
  go_ret
  exact ⟨rfl, HB.out⟩
theorem wish_lowers (h : SnapAt w s q P l b bu bd up down hi) (wk : Int) (p : ByteArray) (x y : Int) (g : ByteArray × Int × Int × Int × ByteArray) :
    Calls Tryz.prog 136 #[wishV s wk p x y, grantV g] w fun e w' => e = .returned (.bool (sLeq P.nl up (x) (g.2.2.1))) ∧ Below w.heap.size w w' := by
  obtain ⟨w0, hw0⟩ : ∃ w0 : World, w0 = (w.alloc (.cells #[.pointer (some ⟨s, 0, none⟩), .int .i64 wk, .string p, .int .i64 x, .int .i64 y] 149)).alloc (.cells #[.string g.1, .int .i64 g.2.1, .int .i64 g.2.2.1, .int .i64 g.2.2.2.1, .string g.2.2.2.2] 53) := ⟨_, rfl⟩
  have hb0 : Below w.heap.size w w0 := by rw [hw0]; (repeat first | exact Below.refl _ _ | assumption | refine Below.alloc ?_ (by simp; try omega) _ | refine Below.drew ?_ | refine Below.drewN ?_ _ | refine Below.setCell ?_ (by simp; try omega) _ | refine Below.trans ?_ (Below.mono (by assumption) (by simp; try omega)))
  have hl := snap_Leq (h.below hb0) (x) (g.2.2.1)
  have HW := Lib.hid hw0; clear hw0
  have HL := Lib.hid hl; clear hl h
  simp only [wishV, grantV]
  go_enter Tryz.func136, Tryz.ntmps136
  go_wp2_with fail
  rw [← HW.out]
  refine HL.out.mono ?_
  rintro e w1 ⟨rfl, rfl⟩
  go_wp2_with fail
  go_ret
  exact ⟨rfl, hb0⟩
theorem wish_under (h : SnapAt w s q P l b bu bd up down hi) (wk : Int) (p : ByteArray) (x y : Int) (g : ByteArray × Int × Int × Int × ByteArray) :
    Calls Tryz.prog 137 #[wishV s wk p x y, grantV g] w fun e w' => e = .returned (.bool (sLeq P.nl up (g.2.2.2.1) (x))) ∧ Below w.heap.size w w' := by
  obtain ⟨w0, hw0⟩ : ∃ w0 : World, w0 = (w.alloc (.cells #[.pointer (some ⟨s, 0, none⟩), .int .i64 wk, .string p, .int .i64 x, .int .i64 y] 149)).alloc (.cells #[.string g.1, .int .i64 g.2.1, .int .i64 g.2.2.1, .int .i64 g.2.2.2.1, .string g.2.2.2.2] 53) := ⟨_, rfl⟩
  have hb0 : Below w.heap.size w w0 := by rw [hw0]; (repeat first | exact Below.refl _ _ | assumption | refine Below.alloc ?_ (by simp; try omega) _ | refine Below.drew ?_ | refine Below.drewN ?_ _ | refine Below.setCell ?_ (by simp; try omega) _ | refine Below.trans ?_ (Below.mono (by assumption) (by simp; try omega)))
  have hl := snap_Leq (h.below hb0) (g.2.2.2.1) (x)
  have HW := Lib.hid hw0; clear hw0
  have HL := Lib.hid hl; clear hl h
  simp only [wishV, grantV]
  go_enter Tryz.func137, Tryz.ntmps137
  go_wp2_with fail
  rw [← HW.out]
  refine HL.out.mono ?_
  rintro e w1 ⟨rfl, rfl⟩
  go_wp2_with fail
  go_ret
  exact ⟨rfl, hb0⟩
theorem wish_reaches (h : SnapAt w s q P l b bu bd up down hi) (wk : Int) (p : ByteArray) (x y : Int) (g : ByteArray × Int × Int × Int × ByteArray) :
    Calls Tryz.prog 138 #[wishV s wk p x y, grantV g] w fun e w' => e = .returned (.bool (sLeq P.nl up (g.2.2.2.1) (y))) ∧ Below w.heap.size w w' := by
  obtain ⟨w0, hw0⟩ : ∃ w0 : World, w0 = (w.alloc (.cells #[.pointer (some ⟨s, 0, none⟩), .int .i64 wk, .string p, .int .i64 x, .int .i64 y] 149)).alloc (.cells #[.string g.1, .int .i64 g.2.1, .int .i64 g.2.2.1, .int .i64 g.2.2.2.1, .string g.2.2.2.2] 53) := ⟨_, rfl⟩
  have hb0 : Below w.heap.size w w0 := by rw [hw0]; (repeat first | exact Below.refl _ _ | assumption | refine Below.alloc ?_ (by simp; try omega) _ | refine Below.drew ?_ | refine Below.drewN ?_ _ | refine Below.setCell ?_ (by simp; try omega) _ | refine Below.trans ?_ (Below.mono (by assumption) (by simp; try omega)))
  have hl := snap_Leq (h.below hb0) (g.2.2.2.1) (y)
  have HW := Lib.hid hw0; clear hw0
  have HL := Lib.hid hl; clear hl h
  simp only [wishV, grantV]
  go_enter Tryz.func138, Tryz.ntmps138
  go_wp2_with fail
  rw [← HW.out]
  refine HL.out.mono ?_
  rintro e w1 ⟨rfl, rfl⟩
  go_wp2_with fail
  go_ret
  exact ⟨rfl, hb0⟩
end
end Go.Proofs.YteblahoijolegaaGreatDoor
end
section
set_option linter.all false
namespace Go.Proofs.YteblahoijolegaaGreatDoor
open Go.RowKit

theorem wish_begins (s : Nat) (wk : Int) (p : ByteArray) (x y : Int) (g : ByteArray × Int × Int × Int × ByteArray) (w : World) :
    Calls Tryz.prog 135 #[wishV s wk p x y, grantV g] w fun e w' => e = .returned (.bool (Lib.hasPrefix p.data.toList g.2.2.2.2.data.toList)) ∧ Below w.heap.size w w' := by
  have hb : Below w.heap.size w ((w.alloc (.cells #[.pointer (some ⟨s, 0, none⟩), .int .i64 wk, .string p, .int .i64 x, .int .i64 y] 149)).alloc (.cells #[.string g.1, .int .i64 g.2.1, .int .i64 g.2.2.1, .int .i64 g.2.2.2.1, .string g.2.2.2.2] 53)) := by (repeat first | exact Below.refl _ _ | assumption | refine Below.alloc ?_ (by simp; try omega) _ | refine Below.drew ?_ | refine Below.drewN ?_ _ | refine Below.setCell ?_ (by simp; try omega) _ | refine Below.trans ?_ (Below.mono (by assumption) (by simp; try omega)))
  have HB := Lib.hid hb; clear hb
  have hp := fun w => Tryz.strings_HasPrefix p g.2.2.2.2 w
  generalize Lib.hasPrefix p.data.toList g.2.2.2.2.data.toList = r at hp ⊢
  simp only [wishV, grantV]
  go_enter Tryz.func135, Tryz.ntmps135
  go_wp2_with fail
  refine (hp _).mono ?_
  rintro e w1 ⟨rfl, rfl⟩
  go_wp2_with fail
  go_ret
  exact ⟨rfl, HB.out⟩
theorem idx5 (a b c d e : Value) (k : Nat) (hk : k < 5) (w : World) : (Instr.index 218 (.agg #[a, b, c, d, e]) (.int .i64 (k : Nat))).run Tryz.prog w = .ok ((#[a, b, c, d, e] : Array Value)[k]?.getD undef) w := by
  rcases (by omega : k = 0 ∨ k = 1 ∨ k = 2 ∨ k = 3 ∨ k = 4) with rfl | rfl | rfl | rfl | rfl <;>
    simp [Instr.index, run_underlying Tryz.underlying218, asIntOf, go_sem]
def fitsF (p : Nat → Bool) : Nat → Nat → Bool
  | 0, _ => true
  | r + 1, k => if p k then fitsF p r (k + 1) else false
/-- the five questions -/
def askB (n : Nat) (up : List Nat) (wk : Int) (p : ByteArray) (x y : Int) (g : ByteArray × Int × Int × Int × ByteArray) (k : Nat) : Bool :=
  if k = 0 then g.2.1 == wk else if k = 1 then Lib.hasPrefix p.data.toList g.2.2.2.2.data.toList else if k = 2 then sLeq n up x g.2.2.1 else if k = 3 then sLeq n up g.2.2.2.1 x else sLeq n up g.2.2.2.1 y
def fitsB (n : Nat) (up : List Nat) (wk : Int) (p : ByteArray) (x y : Int) (g : ByteArray × Int × Int × Int × ByteArray) : Bool := fitsF (askB n up wk p x y g) 5 0
theorem fitsB_iff {n : Nat} {up : List Nat} {wk : Int} {p : ByteArray} {x y : Int} {g : ByteArray × Int × Int × Int × ByteArray} :
    fitsB n up wk p x y g = true ↔ (g.2.1 == wk) = true ∧ Lib.hasPrefix p.data.toList g.2.2.2.2.data.toList = true ∧ sLeq n up x g.2.2.1 = true ∧ sLeq n up g.2.2.2.1 x = true ∧ sLeq n up g.2.2.2.1 y = true := by
  simp [fitsB, fitsF, askB]
section
variable {w : World} {s : Nat} {q : PolPtr} {P : Pol} {l b bu bd : Nat} {up down : List Nat} {hi : Int}
set_option maxHeartbeats 4000000 in
set_option maxRecDepth 20000 in
theorem wish_fits (h : SnapAt w s q P l b bu bd up down hi) (wk : Int) (p : ByteArray) (x y : Int) (g : ByteArray × Int × Int × Int × ByteArray) :
    Calls Tryz.prog 73 #[wishV s wk p x y, grantV g] w fun e w' => e = .returned (.bool (fitsB P.nl up wk p x y g)) ∧ Below w.heap.size w w' := by
  obtain ⟨w0, hw0⟩ : ∃ w0 : World, w0 = (w.alloc (.cells #[.pointer (some ⟨s, 0, none⟩), .int .i64 wk, .string p, .int .i64 x, .int .i64 y] 149)).alloc (.cells #[.string g.1, .int .i64 g.2.1, .int .i64 g.2.2.1, .int .i64 g.2.2.2.1, .string g.2.2.2.2] 53) := ⟨_, rfl⟩
  have hb0 : Below w.heap.size w w0 := by rw [hw0]; (repeat first | exact Below.refl _ _ | assumption | refine Below.alloc ?_ (by simp; try omega) _ | refine Below.drew ?_ | refine Below.drewN ?_ _ | refine Below.setCell ?_ (by simp; try omega) _ | refine Below.trans ?_ (Below.mono (by assumption) (by simp; try omega)))
  have g2 : w0.heap[w.heap.size + 1]? = some (.cells #[.string g.1, .int .i64 g.2.1, .int .i64 g.2.2.1, .int .i64 g.2.2.2.1, .string g.2.2.2.2] 53) := by rw [hw0]; (simp only [heap_drew, heap_allocs, World.size_alloc, if_true] <;> repeat (first | rw [if_pos (by omega)] | rw [if_neg (by omega)]))
  have z0 := cell_of (o := 0) g2; have z1 := cell_of (o := 1) g2; have z2 := cell_of (o := 2) g2; have z3 := cell_of (o := 3) g2; have z4 := cell_of (o := 4) g2
  have c0 := fun W => wish_worked s wk p x y g W
  have c1 := fun W => wish_begins s wk p x y g W
  have c2 := fun W (hW : Below w.heap.size w W) => wish_lowers (h.below hW) wk p x y g
  have c3 := fun W (hW : Below w.heap.size w W) => wish_under (h.below hW) wk p x y g
  have c4 := fun W (hW : Below w.heap.size w W) => wish_reaches (h.below hW) wk p x y g
  have HR := Lib.hid (rfl : fitsB P.nl up wk p x y g = fitsF (askB P.nl up wk p x y g) 5 0)
  have HC := Lib.hid (show ∀ k W, k < 5 → Below w.heap.size w W → Calls Tryz.prog (if k = 0 then 134 else if k = 1 then 135 else if k = 2 then 136 else if k = 3 then 137 else 138) #[wishV s wk p x y, grantV g] W fun e w' => e = .returned (.bool (askB P.nl up wk p x y g k)) ∧ Below W.heap.size W w' from fun k W hk hW => by
    rcases (by omega : k = 0 ∨ k = 1 ∨ k = 2 ∨ k = 3 ∨ k = 4) with rfl | rfl | rfl | rfl | rfl
    · exact c0 W
    · exact c1 W
    · exact c2 W hW
    · exact c3 W hW
    · exact c4 W hW)
  have i0 := fun a b c d e w => idx5 a b c d e 0 (by omega) w
  have i1 := fun a b c d e w => idx5 a b c d e 1 (by omega) w
  have i2 := fun a b c d e w => idx5 a b c d e 2 (by omega) w
  have i3 := fun a b c d e w => idx5 a b c d e 3 (by omega) w
  have i4 := fun a b c d e w => idx5 a b c d e 4 (by omega) w
  simp at i0 i1 i2 i3 i4
  have HW := Lib.hid hw0; clear hw0 c0 c1 c2 c3 c4 h g2
  simp only [wishV, grantV] at HC ⊢
  go_enter Tryz.func73, Tryz.ntmps73
  go_wp2_with fail
  rw [← HW.out]
  go_loopg [18] 5 (fun r s18 wr => ∃ k : Nat, k ≤ 5 ∧ r = 5 - k ∧ s18 = .int .i64 k ∧ fitsF (askB P.nl up wk p x y g) r k = fitsB P.nl up wk p x y g ∧ Below w0.heap.size w0 wr)
  case atStart => exact ⟨0, by omega, rfl, rfl, rfl, Below.refl _ _⟩
  case round =>
    obtain ⟨k, hk, rfl, rfl, he, hb⟩ := hrel
    by_cases hlt : k < 5
    · have hbw := hb0.trans (hb.mono hb0.size)
      have hcall := HC.out k wr hlt hbw
      have y0 := (hb.cell (cell_lt z0)).trans z0; have y1 := (hb.cell (cell_lt z1)).trans z1; have y2 := (hb.cell (cell_lt z2)).trans z2; have y3 := (hb.cell (cell_lt z3)).trans z3; have y4 := (hb.cell (cell_lt z4)).trans z4
      obtain ⟨r, hrr⟩ : ∃ r, 5 - k = r + 1 := ⟨5 - k - 1, by omega⟩
      rw [hrr, fitsF] at he
      have HRR := Lib.hid hrr; clear hrr
      cases ha : askB P.nl up wk p x y g k
      · rw [ha] at hcall he
        have HE := Lib.hid he; clear he ha
        rcases (by omega : k = 0 ∨ k = 1 ∨ k = 2 ∨ k = 3 ∨ k = 4) with rfl | rfl | rfl | rfl | rfl
        all_goals
          simp (config := { decide := true }) only [↓reduceIte] at hcall
          have HCall := Lib.hid hcall; clear hcall
          go_wp2_with fail
          refine HCall.out.mono ?_
          rintro e w1 ⟨rfl, hb1⟩
          have hbf := hbw.trans (hb1.mono hbw.size)
          go_wp2_with fail
          go_ret
          exact ⟨by rw [← HE.out]; rfl, hbf⟩
      · rw [ha] at hcall he
        have HE := Lib.hid he; clear he ha
        rcases (by omega : k = 0 ∨ k = 1 ∨ k = 2 ∨ k = 3 ∨ k = 4) with rfl | rfl | rfl | rfl | rfl
        all_goals
          simp (config := { decide := true }) only [↓reduceIte] at hcall
          have HCall := Lib.hid hcall; clear hcall
          go_wp2_with fail
          refine HCall.out.mono ?_
          rintro e w1 ⟨rfl, hb1⟩
          have hbf := hb.trans (hb1.mono hb.size)
          go_wp2_with fail
          go_roundg r
          case measure => have := HRR.out; omega
          case rel => exact ⟨5 - r, by have := HRR.out; omega, by have := HRR.out; omega, by have := HRR.out; go_num, by have h1 := HE.out; have h2 := HRR.out; first | (rw [show 5 - r = 1 by omega]; exact h1) | (rw [show 5 - r = 2 by omega]; exact h1) | (rw [show 5 - r = 3 by omega]; exact h1) | (rw [show 5 - r = 4 by omega]; exact h1) | (rw [show 5 - r = 5 by omega]; exact h1), hbf⟩
    · obtain rfl : k = 5 := by omega
      have HE := Lib.hid he; clear he
      have hbw := hb0.trans (hb.mono hb0.size)
      go_wp2_with fail
      go_ret
      exact ⟨by rw [← HE.out]; rfl, hbw⟩
end
end Go.Proofs.YteblahoijolegaaGreatDoor
end
section
set_option linter.all false
namespace Go.Proofs.YteblahoijolegaaGreatDoor
open Go.RowKit

theorem may1 {w : World} {bm n : Nat} (h : w.cell? ⟨bm, 0, none⟩ = some (.int .i64 n)) (l : Int) : Calls Tryz.prog 132 #[.int .i64 l, .pointer (some ⟨bm, 0, none⟩)] w fun e w' => e = .returned (.bool (labB n l)) ∧ w = w' := by
  by_cases h0 : 0 ≤ l
  · go_enter Tryz.func132, Tryz.ntmps132
    go_wp2
    go_ret
    exact ⟨by simp [labB, h0], rfl⟩
  · have : labB n l = false := decide_eq_false (by omega)
    rw [this]
    go_enter Tryz.func132, Tryz.ntmps132
    go_wp2
    go_ret
    exact ⟨rfl, rfl⟩
theorem pol_field0 (v0 v1 v2 v3 v4 v5 v6 v7 v8 : Value) (w : World) : (Instr.field 30 (.agg #[v0, v1, v2, v3, v4, v5, v6, v7, v8]) 0).run Tryz.prog w = .ok v0 w := by
  simp [Instr.field, asAgg, go_sem]
theorem pol_field7 (v0 v1 v2 v3 v4 v5 v6 v7 v8 : Value) (w : World) : (Instr.field 30 (.agg #[v0, v1, v2, v3, v4, v5, v6, v7, v8]) 7).run Tryz.prog w = .ok v7 w := by
  simp [Instr.field, asAgg, go_sem]
def mayE (n nw : Nat) (wk l c : Int) : Int := if !labB nw wk || (!labB n l || !labB n c) then 9 else 0
section
variable {w : World} {s : Nat} {q : PolPtr} {P : Pol} {l b bu bd : Nat} {up down : List Nat} {hi : Int}
set_option maxHeartbeats 4000000 in
set_option maxRecDepth 20000 in
theorem wish_may (h : SnapAt w s q P l b bu bd up down hi) (wk : Int) (p : ByteArray) (x y : Int) :
    Calls Tryz.prog 72 #[wishV s wk p x y] w fun e w' => e = .returned (.int .i64 (mayE P.nl P.nw wk x y)) ∧ Below w.heap.size w w' := by
  obtain ⟨w0, hw0⟩ : ∃ w0 : World, w0 = w.alloc (.cells #[.pointer (some ⟨s, 0, none⟩), .int .i64 wk, .string p, .int .i64 x, .int .i64 y] 149) := ⟨_, rfl⟩
  have hb0 : Below w.heap.size w w0 := by rw [hw0]; (repeat first | exact Below.refl _ _ | assumption | refine Below.alloc ?_ (by simp; try omega) _ | refine Below.drew ?_ | refine Below.drewN ?_ _ | refine Below.setCell ?_ (by simp; try omega) _ | refine Below.trans ?_ (Below.mono (by assumption) (by simp; try omega)))
  have g1 : w0.heap[w.heap.size]? = some (.cells #[.pointer (some ⟨s, 0, none⟩), .int .i64 wk, .string p, .int .i64 x, .int .i64 y] 149) := by rw [hw0]; exact heap_new w _
  have hpol := snap_Policy (h.below hb0)
  have hpos := h.ok.pos
  have hn0 : ((P.nl : Int) == 0) = false := by simp; omega
  have HSn := Lib.hid (h.below hb0); clear h
  have HW := Lib.hid hw0; clear hw0
  have G1 := Lib.hid g1; clear g1
  simp only [wishV]
  go_enter Tryz.func72, Tryz.ntmps72
  go_wp2_with fail
  rw [← HW.out]
  refine hpol.mono ?_
  rintro e w1 ⟨⟨q', rfl, -⟩, hb1⟩
  simp only [polCells]
  have hb2 : Below w0.heap.size w0 (w1.alloc (.cells #[.int .i64 P.nl] 3)) := hb1.alloc hb1.size _
  obtain ⟨w2, hw2⟩ : ∃ w2 : World, w2 = w1.alloc (.cells #[.int .i64 P.nl] 3) := ⟨_, rfl⟩
  rw [← hw2] at hb2
  have hg2 : w2.heap[w1.heap.size]? = some (.cells #[.int .i64 P.nl] 3) := by rw [hw2]; exact heap_new w1 _
  have m0 := cell_of (o := 0) hg2
  have hgb := (hb2.block _ (Array.getElem?_eq_some_iff.1 G1.out).1).trans G1.out
  have c0 := cell_of (o := 0) hgb; have c1 := cell_of (o := 1) hgb; have c3 := cell_of (o := 3) hgb; have c4 := cell_of (o := 4) hgb
  have hmany := snap_Many (HSn.out.below hb2)
  have hmanyD := snap_Many (HSn.out.below hb2.drew)
  have hx := may1 m0 x
  have hy := may1 m0 y
  have hbf := hb0.trans (hb2.mono hb0.size)
  have e0 := c0; have e1 := c1; have e3 := c3; have e4 := c4; have e5 := m0
  rw [hw2] at c0 c1 c3 c4 m0
  have hfd := pol_field0
  have HW2 := Lib.hid hw2; clear hw2 hg2 hgb hb2 hb1 hpol
  by_cases h1 : wk < 0
  · have hr : mayE P.nl P.nw wk x y = 9 := by
      have : labB P.nw wk = false := decide_eq_false (by omega)
      rw [mayE, this]; rfl
    have HR := Lib.hid hr; clear hr
    go_wp2_with fail
    go_ret
    exact ⟨by rw [HR.out]; rfl, HW2.out ▸ hbf⟩
  · have HMD := Lib.hid hmanyD; clear hmanyD
    have HBf := Lib.hid hbf; clear hbf
    have HX := Lib.hid (may1 (w := w2.drew) (l := x) (bm := w1.heap.size) (n := P.nl) e5)
    have HY := Lib.hid (may1 (w := w2.drew) (l := y) (bm := w1.heap.size) (n := P.nl) e5)
    have f3 : w2.drew.cell? ⟨w.heap.size, 3, none⟩ = some (.int .i64 x) := e3
    have f4 : w2.drew.cell? ⟨w.heap.size, 4, none⟩ = some (.int .i64 y) := e4
    clear hx hy hmany
    by_cases h2 : (P.nw : Int) ≤ wk
    · have hr : mayE P.nl P.nw wk x y = 9 := by
        have : labB P.nw wk = false := decide_eq_false (by omega)
        rw [mayE, this]; rfl
      have HR := Lib.hid hr; clear hr
      go_wp2_with fail
      rw [← HW2.out]
      go_region_held3 (fun w' => w'.cell? ⟨w.heap.size, 0, none⟩ = some (.pointer (some ⟨s, 0, none⟩)) ∧ w'.cell? ⟨w.heap.size, 1, none⟩ = some (.int .i64 wk))
        (first | exact ⟨e0, e1⟩)
        (first
          | (go_at_call 133; refine HMD.out.mono ?_; rintro e w' ⟨rfl, rfl⟩))
      all_goals
        go_wp2_with fail
        go_ret
        exact ⟨by rw [HR.out]; rfl, HBf.out.drew⟩
    · have hlw : labB P.nw wk = true := decide_eq_true (by omega)
      have HLW := Lib.hid hlw; clear hlw
      cases ex : labB P.nl x
      · have HR := Lib.hid (show mayE P.nl P.nw wk x y = 9 by rw [mayE, ex]; simp)
        rw [ex] at HX
        clear ex
        go_wp2_with fail
        rw [← HW2.out]
        go_region_held3 (fun w' => w'.cell? ⟨w.heap.size, 0, none⟩ = some (.pointer (some ⟨s, 0, none⟩)) ∧ w'.cell? ⟨w.heap.size, 1, none⟩ = some (.int .i64 wk))
          (first | exact ⟨e0, e1⟩)
          (first
            | (go_at_call 133; refine HMD.out.mono ?_; rintro e w' ⟨rfl, rfl⟩))
        all_goals
          go_wp2_with fail
          refine HX.out.mono ?_
          rintro e w' ⟨rfl, rfl⟩
          go_wp2_with fail
          go_ret
          exact ⟨by rw [HR.out]; rfl, HBf.out.drew⟩
      · rw [ex] at HX
        have EX := Lib.hid ex; clear ex
        cases ey : labB P.nl y
        · have HR := Lib.hid (show mayE P.nl P.nw wk x y = 9 by rw [mayE, ey]; simp)
          rw [ey] at HY
          clear ey
          go_wp2_with fail
          rw [← HW2.out]
          go_region_held3 (fun w' => w'.cell? ⟨w.heap.size, 0, none⟩ = some (.pointer (some ⟨s, 0, none⟩)) ∧ w'.cell? ⟨w.heap.size, 1, none⟩ = some (.int .i64 wk))
            (first | exact ⟨e0, e1⟩)
            (first
              | (go_at_call 133; refine HMD.out.mono ?_; rintro e w' ⟨rfl, rfl⟩))
          all_goals
            go_wp2_with fail
            refine HX.out.mono ?_
            rintro e w' ⟨rfl, rfl⟩
            go_wp2_with fail
            refine HY.out.mono ?_
            rintro e w' ⟨rfl, rfl⟩
            go_wp2_with fail
            go_ret
            exact ⟨by rw [HR.out]; rfl, HBf.out.drew⟩
        · have HR := Lib.hid (show mayE P.nl P.nw wk x y = 0 by rw [mayE, ey, EX.out, HLW.out]; rfl)
          rw [ey] at HY
          clear ey
          go_wp2_with fail
          rw [← HW2.out]
          go_region_held3 (fun w' => w'.cell? ⟨w.heap.size, 0, none⟩ = some (.pointer (some ⟨s, 0, none⟩)) ∧ w'.cell? ⟨w.heap.size, 1, none⟩ = some (.int .i64 wk))
            (first | exact ⟨e0, e1⟩)
            (first
              | (go_at_call 133; refine HMD.out.mono ?_; rintro e w' ⟨rfl, rfl⟩))
          all_goals
            go_wp2_with fail
            refine HX.out.mono ?_
            rintro e w' ⟨rfl, rfl⟩
            go_wp2_with fail
            refine HY.out.mono ?_
            rintro e w' ⟨rfl, rfl⟩
            go_wp2_with fail
            go_ret
            exact ⟨by rw [HR.out]; rfl, HBf.out.drew⟩
end
end Go.Proofs.YteblahoijolegaaGreatDoor
end
section
set_option linter.all false
namespace Go.Proofs.YteblahoijolegaaGreatDoor
open Go.RowKit

theorem own_base {w : World} {B B' : Nat} {e : TypeId} {k n : Nat} {v : Value} {xs : List Value} (h : w.ownsRow B e k v n xs) (hb : B' ≤ B) : w.ownsRow B' e k v n xs := by
  refine ⟨h.1, ?_⟩
  rcases h.2 with h | ⟨g, cap, cur, h1, h2, h3⟩
  · exact .inl h
  · exact .inr ⟨g, cap, cur, h1, Nat.le_trans hb h2, h3⟩
/-- the numbers of the grants that fit -/
def fitIx (P : Pol) (up : List Nat) (wk : Int) (p : ByteArray) (x y : Int) (n : Nat) : List Nat := (List.range n).filter fun i => fitsB P.nl up wk p x y (P.grt i)
theorem fitIx_step (P : Pol) (up : List Nat) (wk : Int) (p : ByteArray) (x y : Int) (n : Nat) : fitIx P up wk p x y (n + 1) = fitIx P up wk p x y n ++ (if fitsB P.nl up wk p x y (P.grt n) then [n] else []) := by
  simp only [fitIx, List.range_succ, List.filter_append, List.filter_cons, List.filter_nil]
theorem fitIx_len (P : Pol) (up : List Nat) (wk : Int) (p : ByteArray) (x y : Int) (n : Nat) : (fitIx P up wk p x y n).length ≤ n := by
  have := List.length_filter_le (fun i => fitsB P.nl up wk p x y (P.grt i)) (List.range n)
  simpa [fitIx] using this
/-- a grant's five cells -/
def grtCells (g : ByteArray × Int × Int × Int × ByteArray) : List Value := [.string g.1, .int .i64 g.2.1, .int .i64 g.2.2.1, .int .i64 g.2.2.2.1, .string g.2.2.2.2]
def grtRow (P : Pol) (L : List Nat) : List Value := L.flatMap fun i => grtCells (P.grt i)
section
variable {w : World} {s : Nat} {q : PolPtr} {P : Pol} {l b bu bd : Nat} {up down : List Nat} {hi : Int}
/-- what Fitting says -/
def FtgPost (P : Pol) (up : List Nat) (wk : Int) (p : ByteArray) (x y : Int) (w : World) (e : Ending) (w' : World) : Prop :=
  ((mayE P.nl P.nw wk x y ≠ 0 ∧ e = .returned (.tuple #[.slice none 0 0, .int .i64 (mayE P.nl P.nw wk x y)])) ∨
    (mayE P.nl P.nw wk x y = 0 ∧ ∃ v, e = .returned (.tuple #[v, .int .i64 0]) ∧ w'.ownsRow w.heap.size 53 5 v (fitIx P up wk p x y P.ng).length (grtRow P (fitIx P up wk p x y P.ng)))) ∧ Below w.heap.size w w'
set_option maxHeartbeats 4000000 in
set_option maxRecDepth 20000 in
theorem grant_Fitting (h : SnapAt w s q P l b bu bd up down hi) (wk : Int) (p : ByteArray) (x y : Int) :
    Calls Tryz.prog 19 #[.pointer (some ⟨s, 0, none⟩), .int .i64 wk, .string p, .int .i64 x, .int .i64 y] w (FtgPost P up wk p x y w) := by
  obtain ⟨w0, hw0⟩ : ∃ w0 : World, w0 = w.alloc (.cells #[.pointer (some ⟨s, 0, none⟩), .int .i64 wk, .string p, .int .i64 x, .int .i64 y] 149) := ⟨_, rfl⟩
  have hb0 : Below w.heap.size w w0 := by rw [hw0]; (repeat first | exact Below.refl _ _ | assumption | refine Below.alloc ?_ (by simp; try omega) _ | refine Below.drew ?_ | refine Below.drewN ?_ _ | refine Below.setCell ?_ (by simp; try omega) _ | refine Below.trans ?_ (Below.mono (by assumption) (by simp; try omega)))
  have g1 : w0.heap[w.heap.size]? = some (.cells #[.pointer (some ⟨s, 0, none⟩), .int .i64 wk, .string p, .int .i64 x, .int .i64 y] 149) := by rw [hw0]; exact heap_new w _
  have hmay := wish_may (h.below hb0) wk p x y
  have HSn := Lib.hid (h.below hb0); clear h
  have HW := Lib.hid hw0; clear hw0
  have G1 := Lib.hid g1; clear g1
  have HMay := Lib.hid hmay; clear hmay
  simp only [wishV] at HMay
  by_cases hm : mayE P.nl P.nw wk x y = 0
  · have HM := Lib.hid hm
    rw [hm] at HMay
    clear hm
    go_enter Tryz.func19, Tryz.ntmps19
    go_wp2_with fail
    rw [← HW.out]
    refine HMay.out.mono ?_
    rintro e w1 ⟨rfl, hb1⟩
    have hpol := snap_Policy (HSn.out.below hb1)
    have HPol := Lib.hid hpol; clear hpol
    go_wp2_with fail
    refine HPol.out.mono ?_
    rintro e w2 ⟨⟨q', rfl, hq⟩, hb2⟩
    obtain ⟨a0, a1, a2, a3, a4, a5, a6, a7, a8, k0, k1, k2, k3, k4, k5, k6, k7, k8⟩ := q'
    have hfd := pol_field7
    have HQ := Lib.hid hq.h7; clear hq
    simp only [polCells]
    obtain ⟨t0, ht0, hz0, hz1, hz2⟩ := info_parts info_grant
    have hsm := HSn.out.small.ng
    have hbw1 := hb0.trans (hb1.mono hb0.size)
    have hbw2 := hbw1.trans (hb2.mono hbw1.size)
    have hS2 := (HSn.out.below hb1).below hb2
    have HS2 := Lib.hid hS2; clear hS2
    have hgw := (hb2.block _ (by have := (Array.getElem?_eq_some_iff.1 G1.out).1; have := hb1.size; omega)).trans ((hb1.block _ (Array.getElem?_eq_some_iff.1 G1.out).1).trans G1.out)
    have HGW := Lib.hid hgw; clear hgw
    have HBW := Lib.hid hbw2
    clear hb1 hb2 hbw1 hbw2
    go_wp2_with fail
    go_loopg [10, 31] P.ng (fun r s10 s31 wr => ∃ i : Nat, i ≤ P.ng ∧ r = P.ng - i ∧ s31 = .int .i64 i ∧ wr.ownsRow w2.heap.size 53 5 s10 (fitIx P up wk p x y i).length (grtRow P (fitIx P up wk p x y i)) ∧ Below w2.heap.size w2 wr)
    case atStart => exact ⟨0, by omega, rfl, rfl, World.ownsRow_nil _ _ _ _, Below.refl _ _⟩
    case round =>
      obtain ⟨i, hi, rfl, rfl, hown, hb⟩ := hrel
      by_cases hlt : i < P.ng
      · obtain ⟨a, off, rfl, hcs⟩ := ((HQ.out.below hb).sl).resolve_left (by omega)
        obtain ⟨r, hrr⟩ : ∃ r, P.ng - i = r + 1 := ⟨P.ng - i - 1, by omega⟩
        have HRR := Lib.hid hrr; clear hrr
        have hlt2 : (i : Int) < P.ng := by omega
        have d0 : wr.cell? ⟨a, off + i * 5, none⟩ = some (.string (P.grt i).1) := by have := hcs i hlt 0 (by omega); simpa [grC] using this
        have d1 : wr.cell? ⟨a, off + i * 5 + 1, none⟩ = some (.int .i64 (P.grt i).2.1) := by have := hcs i hlt 1 (by omega); simpa [grC] using this
        have d2 : wr.cell? ⟨a, off + i * 5 + 2, none⟩ = some (.int .i64 (P.grt i).2.2.1) := by have := hcs i hlt 2 (by omega); simpa [grC] using this
        have d3 : wr.cell? ⟨a, off + i * 5 + 3, none⟩ = some (.int .i64 (P.grt i).2.2.2.1) := by have := hcs i hlt 3 (by omega); simpa [grC] using this
        have d4 : wr.cell? ⟨a, off + i * 5 + 4, none⟩ = some (.string (P.grt i).2.2.2.2) := by have := hcs i hlt 4 (by omega); simpa [grC] using this
        clear hcs
        have hgr := (hb.block _ (Array.getElem?_eq_some_iff.1 HGW.out).1).trans HGW.out
        obtain ⟨wl, hwl⟩ : ∃ wl : World, wl = wr.alloc (.cells #[.string (P.grt i).1, .int .i64 (P.grt i).2.1, .int .i64 (P.grt i).2.2.1, .int .i64 (P.grt i).2.2.2.1, .string (P.grt i).2.2.2.2] 53) := ⟨_, rfl⟩
        have hbl : Below wr.heap.size wr wl := by rw [hwl]; (repeat first | exact Below.refl _ _ | assumption | refine Below.alloc ?_ (by simp; try omega) _ | refine Below.drew ?_ | refine Below.drewN ?_ _ | refine Below.setCell ?_ (by simp; try omega) _ | refine Below.trans ?_ (Below.mono (by assumption) (by simp; try omega)))
        have hX : wl.heap[wr.heap.size]? = some (.cells #[.string (P.grt i).1, .int .i64 (P.grt i).2.1, .int .i64 (P.grt i).2.2.1, .int .i64 (P.grt i).2.2.2.1, .string (P.grt i).2.2.2.2] 53) := by rw [hwl]; exact heap_new wr _
        have hgl := (hbl.block _ (Array.getElem?_eq_some_iff.1 hgr).1).trans hgr
        have u0 := cell_of (o := 0) hgl; have u1 := cell_of (o := 1) hgl; have u2 := cell_of (o := 2) hgl; have u3 := cell_of (o := 3) hgl; have u4 := cell_of (o := 4) hgl
        rw [hwl] at u0 u1 u2 u3 u4
        have hbw := hb.trans (hbl.mono hb.size)
        have hfit := wish_fits (HS2.out.below hbw) wk p x y (P.grt i)
        simp only [wishV, grantV] at hfit
        have hstep := fitIx_step P up wk p x y i
        have hownl := own_below hown hbl
        have HX := Lib.hid hX
        have HWl := Lib.hid hwl
        clear hwl hX hgl hgr hown hbl hb
        cases hf : fitsB P.nl up wk p x y (P.grt i)
        · rw [hf] at hfit hstep
          simp only [Bool.false_eq_true, if_false, List.append_nil] at hstep
          have HF := Lib.hid hfit; clear hfit hf
          go_wp2_with fail
          rw [← HWl.out]
          refine HF.out.mono ?_
          rintro e wf ⟨rfl, hbf⟩
          have hownf := own_below hownl hbf
          have hbz := hbw.trans (hbf.mono hbw.size)
          go_wp2_with fail
          go_roundg r
          case measure => have := HRR.out; omega
          case rel => exact ⟨i + 1, by omega, by have := HRR.out; omega, by go_num, by rw [hstep]; exact hownf, hbz⟩
        · rw [hf] at hfit hstep
          simp only [if_true] at hstep
          have HF := Lib.hid hfit; clear hfit hf
          go_wp2_with fail
          rw [← HWl.out]
          refine HF.out.mono ?_
          rintro e wf ⟨rfl, hbf⟩
          have hownf := own_below hownl hbf
          have hbz := hbw.trans (hbf.mono hbw.size)
          have hXf := (hbf.block _ (Array.getElem?_eq_some_iff.1 HX.out).1).trans HX.out
          have v0 := cell_of (o := 0) hXf; have v1 := cell_of (o := 1) hXf; have v2 := cell_of (o := 2) hXf; have v3 := cell_of (o := 3) hXf; have v4 := cell_of (o := 4) hXf
          clear hXf hownl
          have hba : Below wf.heap.size wf (wf.alloc (.cells #[.string (P.grt i).1, .int .i64 (P.grt i).2.1, .int .i64 (P.grt i).2.2.1, .int .i64 (P.grt i).2.2.2.1, .string (P.grt i).2.2.2.2] 53)) := (Below.refl _ wf).alloc (Nat.le_refl _) _
          have hown1 := own_below hownf hba
          have hcell : ∀ (j : Nat) (u : Value), (grtCells (P.grt i))[j]? = some u → (wf.alloc (.cells #[.string (P.grt i).1, .int .i64 (P.grt i).2.1, .int .i64 (P.grt i).2.2.1, .int .i64 (P.grt i).2.2.2.1, .string (P.grt i).2.2.2.2] 53)).cell? (Addr.add ⟨wf.heap.size, 0, none⟩ j) = some u := by
            intro j u hu
            rw [addr_add, Nat.zero_add, cell_of (heap_new wf _)]
            simpa [grtCells] using hu
          have hone : ∀ u ∈ grtCells (P.grt i), u.oneCell' = true := by
            intro u hu
            simp only [grtCells, List.mem_cons, List.not_mem_nil, or_false] at hu
            rcases hu with rfl | rfl | rfl | rfl | rfl <;> rfl
          have hln := fitIx_len P up wk p x y i
          have hm1 : (fitIx P up wk p x y i).length + 1 ≤ maxLen := le_maxLen (by omega)
          have hm2 : ((fitIx P up wk p x y i).length + 1) * 56 ≤ 140737488355328 := by omega
          have hsz2 : w2.heap.size ≤ (wf.alloc (.cells #[.string (P.grt i).1, .int .i64 (P.grt i).2.1, .int .i64 (P.grt i).2.2.1, .int .i64 (P.grt i).2.2.2.1, .string (P.grt i).2.2.2.2] 53)).heap.size := Nat.le_trans hbz.size hba.size
          have HCell := Lib.hid hcell; have HOne := Lib.hid hone; have HM1 := Lib.hid hm1; have HM2 := Lib.hid hm2; have HSz2 := Lib.hid hsz2
          have HST := Lib.hid hstep
          clear hcell hone hm1 hm2 hsz2 hstep hownf
          go_wp2_with (at_builtin; refine wpList_append_own _ rfl _ _ 28 rfl w2.heap.size 53 t0 (.agg #[.string ⟨#[]⟩, .int .i64 0, .int .i64 0, .int .i64 0, .string ⟨#[]⟩]) 5 56 Tryz.underlying28 ht0 hz0 hz1 hz2 rfl (by decide) _ _ _ rfl hown1 ⟨wf.heap.size, 0, none⟩ 1 1 (grtCells (P.grt i)) rfl rfl HCell.out HOne.out HM1.out HM2.out HSz2.out ?_; intro v' wg hown' hgrow _)
          have hbg : Below w2.heap.size w2 wg := ((hbz.alloc hbz.size _).grown hgrow (Nat.le_trans hbz.size hba.size) (fun k hk => (hown1.lt k hk).1))
          go_roundg r
          case measure => have := HRR.out; omega
          case rel => exact ⟨i + 1, by omega, by have := HRR.out; omega, by go_num, by rw [HST.out]; simpa [grtRow, List.flatMap_append] using hown', hbg⟩
      · obtain rfl : i = P.ng := by omega
        have hbf := HBW.out.trans (hb.mono HBW.out.size)
        have HO := Lib.hid (own_base hown HBW.out.size); clear hown
        go_wp2_with fail
        go_ret2
        exact ⟨.inr ⟨HM.out, _, rfl, HO.out⟩, hbf⟩
  · have HM := Lib.hid hm
    have hm2 : (mayE P.nl P.nw wk x y == 0) = false := by simpa using hm
    clear hm
    go_enter Tryz.func19, Tryz.ntmps19
    go_wp2_with fail
    rw [← HW.out]
    refine HMay.out.mono ?_
    rintro e w1 ⟨rfl, hb1⟩
    have hb2 := hb0.trans (hb1.mono hb0.size)
    go_wp2_with fail
    go_ret2
    exact ⟨.inl ⟨HM.out, rfl⟩, hb2⟩
end
end Go.Proofs.YteblahoijolegaaGreatDoor
end
