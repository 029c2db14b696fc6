import Derived.Test.YteblahoijolegaaGreatDoorProg
import Derived.WalkKit
import Derived.WalkSpells
import Derived.WalkLawsBesides
import Derived.Laws.BitsAllLaws
import Derived.Lib.Hide
import Derived.BigRegion
import Derived.Deep.DeepCutAuto
import Derived.Deep.LoopGhost
import Derived.Deep.Light
import Derived.ChangeAlike
import Derived.RangeFuncSeq
import Derived.RangeFuncLeaves
import Derived.RangeFuncKeeps
import Derived.OwnWalkIn
import Derived.TacticsInMore
import Derived.LoopNIn
import Derived.LoopIn
import Derived.RangeFuncBox
import Derived.Maps.AppendAt
section
set_option linter.all false
namespace Go.Proofs.YteblahoijolegaaGreatDoor
open Go.RowKit

/-- what a call that makes memory of its own leaves -/
def Gives (r : Value) (w : World) (e : Ending) (w' : World) : Prop := e = .returned r ∧ Below w.heap.size w w'
theorem bcell {W w1 : World} {B : Nat} (hb : Below B W w1) : (∀ b o, b < B → w1.cell? ⟨b, o, none⟩ = W.cell? ⟨b, o, none⟩) ∧ (∀ b o, b < B → w1.frozen? ⟨b, o, none⟩ = W.frozen? ⟨b, o, none⟩) :=
  ⟨fun b o h => hb.cell (p := ⟨b, o, none⟩) h, fun b o h => hb.frozen (p := ⟨b, o, none⟩) h⟩

theorem u32_bit (s a : Nat) (h : s < 4294967296) : (bits .and .u32 ((s : Int) / 2 ^ a) 1 == 1) = s.testBit a := by
  have h1 : ((s : Int) / 2 ^ a) = ((s / 2 ^ a : Nat) : Int) := by simp
  have h2 : s / 2 ^ a < 4294967296 := Nat.lt_of_le_of_lt (Nat.div_le_self _ _) h
  rw [h1, show (1 : Int) = ((1 : Nat) : Int) from rfl, u32_and_nat _ _ h2 (by omega), Nat.testBit, Nat.shiftRight_eq_div_pow, Nat.and_comm]
  rw [show (1 &&& s / 2 ^ a) = s / 2 ^ a % 2 from by rw [Nat.and_comm]; exact Nat.and_one_is_mod _]
  rcases (by omega : s / 2 ^ a % 2 = 0 ∨ s / 2 ^ a % 2 = 1) with h | h <;> simp [h]

set_option maxHeartbeats 400000 in
theorem has_any (s a : Nat) (w : World) (h0 : s < 4294967296) (h1 : a < 16) :
    Calls Tryz.prog 151 #[.int .u32 s, .int .i64 a] w fun e w' => e = .returned (.bool (s.testBit a)) ∧ w = w' := by
  rw [← u32_bit s a h0]
  go_enter Tryz.func151, Tryz.ntmps151
  go_wp2
  go_ret
  refine ⟨?_, rfl⟩
  simp

/-- an order in memory: two rows of sets -/
structure OrdAt (w : World) (b bu bd : Nat) (up down : List Nat) : Prop where
  len : up.length = down.length
  small : up.length ≤ 10
  ubd : ∀ s ∈ up, s < 1024
  dbd : ∀ s ∈ down, s < 1024
  blk : w.heap[b]? = some (.cells #[.slice (some ⟨bu, 0, none⟩) up.length up.length, .slice (some ⟨bd, 0, none⟩) up.length up.length] 228)
  up : w.heap[bu]? = some (.cells (up.map fun s => Value.int .u32 (s : Nat)).toArray 229)
  down : w.heap[bd]? = some (.cells (down.map fun s => Value.int .u32 (s : Nat)).toArray 229)
  ne : bu ≠ bd
  ne1 : b ≠ bu
  ne2 : b ≠ bd

theorem cell_of {w : World} {b o : Nat} {c : Array Value} {t : TypeId} {fz : Nat × Nat} (h : w.heap[b]? = some (.cells c t fz)) : w.cell? ⟨b, o, none⟩ = c[o]? := by
  simp [World.cell?, h]
theorem free_of {w : World} {b o : Nat} {c : Array Value} {t : TypeId} (h : w.heap[b]? = some (.cells c t)) : w.frozen? ⟨b, o, none⟩ = false := by
  simp [World.frozen?, h]
theorem OrdAt.c0 {w b bu bd up down} (h : OrdAt w b bu bd up down) : w.cell? ⟨b, 0, none⟩ = some (.slice (some ⟨bu, 0, none⟩) up.length up.length) := by
  rw [cell_of h.blk]; rfl
theorem OrdAt.c1 {w b bu bd up down} (h : OrdAt w b bu bd up down) : w.cell? ⟨b, 1, none⟩ = some (.slice (some ⟨bd, 0, none⟩) up.length up.length) := by
  rw [cell_of h.blk]; rfl
theorem OrdAt.cu {w b bu bd up down} (h : OrdAt w b bu bd up down) {i : Nat} (hi : i < up.length) : w.cell? ⟨bu, i, none⟩ = some (.int .u32 (up[i]?.getD 0 : Nat)) := by
  rw [cell_of h.up]; simp [hi]
theorem OrdAt.cd {w b bu bd up down} (h : OrdAt w b bu bd up down) {i : Nat} (hi : i < up.length) : w.cell? ⟨bd, i, none⟩ = some (.int .u32 (down[i]?.getD 0 : Nat)) := by
  have := h.len
  rw [cell_of h.down]; simp [this ▸ hi]
theorem OrdAt.lt {w b bu bd up down} (h : OrdAt w b bu bd up down) : b < w.heap.size ∧ bu < w.heap.size ∧ bd < w.heap.size :=
  ⟨(Array.getElem?_eq_some_iff.1 h.blk).1, (Array.getElem?_eq_some_iff.1 h.up).1, (Array.getElem?_eq_some_iff.1 h.down).1⟩
theorem OrdAt.below {w w' b bu bd up down} (h : OrdAt w b bu bd up down) (hb : Below w.heap.size w w') : OrdAt w' b bu bd up down :=
  { h with blk := (hb.block _ h.lt.1).trans h.blk, up := (hb.block _ h.lt.2.1).trans h.up, down := (hb.block _ h.lt.2.2).trans h.down }

set_option maxHeartbeats 400000 in
theorem order_Many {w b bu bd up down} (h : OrdAt w b bu bd up down) :
    Calls Tryz.prog 149 #[.pointer (some ⟨b, 0, none⟩)] w fun e w' => e = .returned (.int .i64 up.length) ∧ w = w' := by
  have c0 := h.c0
  go_enter Tryz.func149, Tryz.ntmps149
  go_wp2
  go_ret
  exact ⟨rfl, rfl⟩

set_option maxHeartbeats 400000 in
theorem order_is {w b bu bd up down} (h : OrdAt w b bu bd up down) (a : Int) :
    Calls Tryz.prog 150 #[.pointer (some ⟨b, 0, none⟩), .int .i64 a] w fun e w' => e = .returned (.bool (decide (0 ≤ a ∧ a < up.length))) ∧ w = w' := by
  by_cases h0 : 0 ≤ a
  · go_enter Tryz.func150, Tryz.ntmps150
    go_wp2_with (go_at_call 149; refine (order_Many h).mono ?_; rintro e w' ⟨rfl, rfl⟩)
    go_ret
    exact ⟨by simp [h0], rfl⟩
  · go_enter Tryz.func150, Tryz.ntmps150
    go_wp2
    go_ret
    exact ⟨by simp; omega, rfl⟩

theorem getD_lt {l : List Nat} (h : ∀ s ∈ l, s < 1024) (i : Nat) : l[i]?.getD 0 < 1024 := by
  rcases Nat.lt_or_ge i l.length with hi | hi
  · simp [hi]; exact h _ (List.getElem_mem hi)
  · simp [hi]

/-- at most -/
def leqO (up : List Nat) (a b : Int) : Bool := decide (0 ≤ a ∧ a < up.length) && (decide (0 ≤ b ∧ b < up.length) && (up[a.toNat]?.getD 0).testBit b.toNat)
set_option maxHeartbeats 400000 in
theorem order_AtMost {w b bu bd up down} (h : OrdAt w b bu bd up down) (a c : Int) :
    Calls Tryz.prog 131 #[.pointer (some ⟨b, 0, none⟩), .int .i64 a, .int .i64 c] w fun e w' => e = .returned (.bool (leqO up a c)) ∧ w = w' := by
  cases e0 : decide (0 ≤ a ∧ a < up.length)
  · have H0 := Lib.hid e0; clear e0
    go_enter Tryz.func131, Tryz.ntmps131
    go_wp2_with fail
    refine (order_is h _).mono ?_; rintro e w' ⟨rfl, rfl⟩
    rw [H0.out]
    go_wp2
    go_ret
    exact ⟨by simp [leqO, H0.out], rfl⟩
  · cases e1 : decide (0 ≤ c ∧ c < up.length)
    · have H0 := Lib.hid e0; clear e0
      have H1 := Lib.hid e1; clear e1
      go_enter Tryz.func131, Tryz.ntmps131
      go_wp2_with fail
      refine (order_is h _).mono ?_; rintro e w' ⟨rfl, rfl⟩
      rw [H0.out]
      go_wp2_with fail
      refine (order_is h _).mono ?_; rintro e w' ⟨rfl, rfl⟩
      rw [H1.out]
      go_wp2
      go_ret
      exact ⟨by simp [leqO, H0.out, H1.out], rfl⟩
    · have h0 := of_decide_eq_true e0
      have h1 := of_decide_eq_true e1
      obtain ⟨i, rfl⟩ := Int.eq_ofNat_of_zero_le h0.1
      obtain ⟨j, rfl⟩ := Int.eq_ofNat_of_zero_le h1.1
      have hs := h.small
      have c0 := h.c0
      have cu := h.cu (i := i) (by omega)
      have hlt := getD_lt h.ubd i
      have H0 := Lib.hid e0; clear e0
      have H1 := Lib.hid e1; clear e1
      have hi : (i : Int) < up.length := h0.2
      have hj : j < 10 := by omega
      clear h0 h1
      go_enter Tryz.func131, Tryz.ntmps131
      go_wp2_with fail
      refine (order_is h _).mono ?_; rintro e w' ⟨rfl, rfl⟩
      rw [H0.out]
      go_wp2_with fail
      refine (order_is h _).mono ?_; rintro e w' ⟨rfl, rfl⟩
      rw [H1.out]
      go_wp2_with fail
      refine (has_any _ _ _ (by omega) (by omega)).mono ?_; rintro e w' ⟨rfl, rfl⟩
      go_wp2
      go_ret
      refine ⟨?_, rfl⟩
      have hi' : i < up.length := by omega
      have hj' : j < up.length := by have := of_decide_eq_true H1.out; omega
      simp [leqO, hi', hj']
end Go.Proofs.YteblahoijolegaaGreatDoor
end
section
set_option linter.all false
namespace Go.Proofs.YteblahoijolegaaGreatDoor
open Go.RowKit

theorem Tryz.info229 : (Tryz.prog.info? 229).map (fun i => (i.zero, i.size, i.bytes)) = some (some (.int .u32 0), 1, 4) := by kernel_rfl
/-- a row of n things -/
def rowOf (l : List Nat) : Array Value := (l.map fun s => Value.int .u32 (s : Nat)).toArray
theorem run_mk_sets (n : Nat) (hn : n ≤ 16) (w : World) : (Instr.makeSlice 226 (.int .i64 n) (.int .i64 n)).run Tryz.prog w = .ok (.slice (some ⟨w.heap.size, 0, none⟩) n n) (w.alloc (.cells (rowOf (List.replicate n 0)) 229)) := by
  obtain ⟨i0, hi, hz0, hz1, hz2⟩ := info_parts Tryz.info229
  have h1 : (i0.bytes : Int) * (n : Int) ≤ 281474976710656 := by rw [hz2]; omega
  have := run_make (P := Tryz.prog) w 226 229 i0 _ Tryz.underlying226 hi hz0 .i64 .i64 n n (by omega) (by omega) h1 (by omega)
  rw [this, hz1]
  simp only [Int.toNat_natCast]
  have : madeCells (Value.int IntKind.u32 0).cells (n * 1) = rowOf (List.replicate n 0) := ?_
  · rw [this]
  apply Array.ext'
  rw [show (Value.int IntKind.u32 0).cells = #[Value.int .u32 0] from rfl, Nat.mul_one, toList_madeCells_one]
  simp [rowOf]

set_option maxHeartbeats 400000 in
theorem order_New_no (many : Int) (w : World) (h : many < 1 ∨ 16 < many) :
    Calls Tryz.prog 89 #[.int .i64 many] w fun e w' => e = .returned (.tuple #[.pointer none, .int .i64 2]) ∧ w = w' := by
  rcases h with h | h
  · go_enter Tryz.func89, Tryz.ntmps89
    go_wp2
    go_ret2
    exact ⟨rfl, rfl⟩
  · have h' : ¬ many < 1 := by omega
    go_enter Tryz.func89, Tryz.ntmps89
    go_wp2
    go_ret2
    exact ⟨rfl, rfl⟩


/-- the three blocks -/
structure OrdMem (w : World) (b bu bd n : Nat) (up down : List Nat) : Prop where
  lu : up.length = n
  ld : down.length = n
  blk : w.heap[b]? = some (.cells #[.slice (some ⟨bu, 0, none⟩) n n, .slice (some ⟨bd, 0, none⟩) n n] 228)
  up : w.heap[bu]? = some (.cells (rowOf up) 229)
  down : w.heap[bd]? = some (.cells (rowOf down) 229)
  ne : bu ≠ bd
  ne1 : b ≠ bu
  ne2 : b ≠ bd
theorem heap_new (w : World) (o : Obj) : (w.alloc o).heap[w.heap.size]? = some o := by show (w.heap.push o)[w.heap.size]? = _; simp
theorem heap_allocs (w : World) (o : Obj) (k : Nat) : (w.alloc o).heap[k]? = if k = w.heap.size then some o else w.heap[k]? := by show (w.heap.push o)[k]? = _; simp [Array.getElem?_push]
theorem heap_set {w : World} {b o : Nat} {c : Array Value} {t : TypeId} {fz : Nat × Nat} (v : Value) (h : w.heap[b]? = some (.cells c t fz)) : (w.setCell ⟨b, o, none⟩ v).heap[b]? = some (.cells (c.setIfInBounds o v) t fz) := by
  simp only [World.setCell, Array.getElem?_modify, h]; simp
theorem heap_setne {w : World} {b o k : Nat} (v : Value) (h : k ≠ b) : (w.setCell ⟨b, o, none⟩ v).heap[k]? = w.heap[k]? := Below.heap_setCell w ⟨b, o, none⟩ v k h
theorem rowOf_get (l : List Nat) (j : Nat) (h : j < l.length) : (rowOf l)[j]? = some (.int .u32 (l[j]?.getD 0 : Nat)) := by simp [rowOf, h]
theorem rowOf_set (l : List Nat) (j x : Nat) : (rowOf l).setIfInBounds j (.int .u32 (x : Nat)) = rowOf (l.set j x) := by
  apply Array.ext'; simp [rowOf, List.map_set]
theorem fill_set (f : Nat → Nat) (n j : Nat) (h : j < n) : ((List.range j).map f ++ List.replicate (n - j) 0).set j (f j) = (List.range (j + 1)).map f ++ List.replicate (n - (j + 1)) 0 := by
  apply List.ext_getElem?
  intro i
  simp only [List.getElem?_set, List.getElem?_append, List.length_map, List.length_range, List.length_append, List.length_replicate, List.getElem?_map, List.getElem?_replicate, List.getElem?_range']
  by_cases h1 : i < j
  · have e1 : j ≠ i := by omega
    have e2 : i < j + 1 := by omega
    simp [h1, e1, e2, List.getElem?_range, h1]
  · by_cases h2 : i = j
    · subst h2; simp [List.getElem?_range]; omega
    · have e1 : j ≠ i := by omega
      have e2 : ¬ i < j + 1 := by omega
      simp only [h1, e1, e2, if_false]
      by_cases h3 : i < n
      · rw [if_pos (by omega), if_pos (by omega)]
      · rw [if_neg (by omega), if_neg (by omega)]
theorem fill_get (f : Nat → Nat) (n j : Nat) (h : j < n) : ((List.range j).map f ++ List.replicate (n - j) 0)[j]?.getD 0 = 0 := by
  rw [List.getElem?_append_right (by simp), List.getElem?_replicate]; split <;> rfl
theorem cell_alloc_lt {w : World} {o : Obj} {b i : Nat} (h : b < w.heap.size) : (w.alloc o).cell? ⟨b, i, none⟩ = w.cell? ⟨b, i, none⟩ := World.cell?_alloc_lt w o ⟨b, i, none⟩ h
theorem cell_drew (w : World) (a : Addr) : w.drew.cell? a = w.cell? a := rfl
theorem cell_set_ne {w : World} {b i b' i' : Nat} {v : Value} (h : b ≠ b') : (w.setCell ⟨b', i', none⟩ v).cell? ⟨b, i, none⟩ = w.cell? ⟨b, i, none⟩ :=
  World.cell?_of_block (w := w) (Below.heap_setCell w ⟨b', i', none⟩ v b h)
theorem size_drew (w : World) : w.drew.heap.size = w.heap.size := rfl
theorem size_set (w : World) (a : Addr) (v : Value) : (w.setCell a v).heap.size = w.heap.size := by simp [World.setCell]
theorem heap_drew (w : World) : w.drew.heap = w.heap := rfl
theorem heap_old {w : World} {o : Obj} {b : Nat} (h : b < w.heap.size) : (w.alloc o).heap[b]? = w.heap[b]? := Below.heap_alloc w o b h

theorem OrdMem.setU {w b bu bd n up down} (h : OrdMem w b bu bd n up down) (j x : Nat) : OrdMem (w.setCell ⟨bu, j, none⟩ (.int .u32 (x : Nat))) b bu bd n (up.set j x) down :=
  { h with lu := by simpa using h.lu, blk := (heap_setne _ h.ne1).trans h.blk, up := by rw [heap_set _ h.up, rowOf_set], down := (heap_setne _ (Ne.symm h.ne)).trans h.down }
theorem OrdMem.setD {w b bu bd n up down} (h : OrdMem w b bu bd n up down) (j x : Nat) : OrdMem (w.setCell ⟨bd, j, none⟩ (.int .u32 (x : Nat))) b bu bd n up (down.set j x) :=
  { h with ld := by simpa using h.ld, blk := (heap_setne _ h.ne2).trans h.blk, down := by rw [heap_set _ h.down, rowOf_set], up := (heap_setne _ h.ne).trans h.up }
theorem OrdMem.drew {w b bu bd n up down} (h : OrdMem w b bu bd n up down) : OrdMem w.drew b bu bd n up down := ⟨h.lu, h.ld, h.blk, h.up, h.down, h.ne, h.ne1, h.ne2⟩
theorem pow_small (j : Nat) (h : j < 16) : (2 ^ j % 4294967296 : Int) = ((2 ^ j : Nat) : Int) := by
  have : 2 ^ j < 4294967296 := Nat.lt_of_lt_of_le (Nat.pow_lt_pow_right (by omega) h) (by decide)
  have e : (2 ^ j : Int) = ((2 ^ j : Nat) : Int) := by simp
  rw [e]; generalize 2 ^ j = x at *; omega

set_option maxHeartbeats 400000 in
theorem order_New_yes (n : Nat) (w : World) (h1 : 1 ≤ n) (h2 : n ≤ 10) :
    Calls Tryz.prog 89 #[.int .i64 n] w fun e w' => ∃ b bu bd, e = .returned (.tuple #[.pointer (some ⟨b, 0, none⟩), .int .i64 0]) ∧ 
      OrdMem w' b bu bd n ((List.range n).map fun a => 2 ^ a) ((List.range n).map fun a => 2 ^ a) ∧ Below w.heap.size w w' ∧ w.heap.size ≤ b ∧ w.heap.size ≤ bu ∧ w.heap.size ≤ bd := by
  have hmk := run_mk_sets n (by omega)
  go_enter Tryz.func89, Tryz.ntmps89
  go_upto_region 3 with fail
  go_cut [4] (fun s4 wx => ∃ b bu bd : Nat, s4 = .pointer (some ⟨b, 0, none⟩) ∧ OrdMem wx b bu bd n (List.replicate n 0) (List.replicate n 0) ∧ Below w.heap.size w wx ∧ w.heap.size ≤ b ∧ w.heap.size ≤ bu ∧ w.heap.size ≤ bd)
  case first =>
    go_region
    · go_wp2_with fail
      go_meet
      refine ⟨w.heap.size + 2, w.heap.size, w.heap.size + 1, rfl, ⟨by simp, by simp, ?_, ?_, ?_, by omega, by omega, by omega⟩, ?_, by omega, by omega, by omega⟩
      · (simp only [heap_drew, heap_allocs, World.size_alloc, if_true] <;> repeat (first | rw [if_pos (by omega)] | rw [if_neg (by omega)]))
      · (simp only [heap_drew, heap_allocs, World.size_alloc, if_true] <;> repeat (first | rw [if_pos (by omega)] | rw [if_neg (by omega)]))
      · (simp only [heap_drew, heap_allocs, World.size_alloc, if_true] <;> repeat (first | rw [if_pos (by omega)] | rw [if_neg (by omega)]))
      · (repeat first | exact Below.refl _ _ | assumption | refine Below.alloc ?_ (by simp; try omega) _ | refine Below.drew ?_ | refine Below.drewN ?_ _ | refine Below.setCell ?_ (by simp; try omega) _ | refine Below.trans ?_ (Below.mono (by assumption) (by simp; try omega)))
    · go_wp2_with fail
      go_meet
      refine ⟨w.heap.size + 2, w.heap.size + 1, w.heap.size, rfl, ⟨by simp, by simp, ?_, ?_, ?_, by omega, by omega, by omega⟩, ?_, by omega, by omega, by omega⟩
      · (simp only [heap_drew, heap_allocs, World.size_alloc, if_true] <;> repeat (first | rw [if_pos (by omega)] | rw [if_neg (by omega)]))
      · (simp only [heap_drew, heap_allocs, World.size_alloc, if_true] <;> repeat (first | rw [if_pos (by omega)] | rw [if_neg (by omega)]))
      · (simp only [heap_drew, heap_allocs, World.size_alloc, if_true] <;> repeat (first | rw [if_pos (by omega)] | rw [if_neg (by omega)]))
      · (repeat first | exact Below.refl _ _ | assumption | refine Below.alloc ?_ (by simp; try omega) _ | refine Below.drew ?_ | refine Below.drewN ?_ _ | refine Below.setCell ?_ (by simp; try omega) _ | refine Below.trans ?_ (Below.mono (by assumption) (by simp; try omega)))
  case rest =>
    obtain ⟨b, bu, bd, rfl, hm, hb, g1, g2, g3⟩ := hcut
    go_wp2_with fail
    go_loopg [5, 19] n (fun k s5 i wr => ∃ j : Nat, j ≤ n ∧ k = n - j ∧ i = .int .i64 j ∧ Below w.heap.size w wr ∧ OrdMem wr b bu bd n ((List.range j).map (fun a => 2 ^ a) ++ List.replicate (n - j) 0) ((List.range j).map (fun a => 2 ^ a) ++ List.replicate (n - j) 0))
    case atStart => exact ⟨0, by omega, rfl, rfl, hb, by simpa using hm⟩
    case round =>
      obtain ⟨j, hj, rfl, rfl, hb2, hm2⟩ := hrel
      by_cases hlt : j < n
      · have c0 : wr.cell? ⟨b, 0, none⟩ = some (.slice (some ⟨bu, 0, none⟩) n n) := by rw [cell_of hm2.blk]; rfl
        have c1 : wr.cell? ⟨b, 1, none⟩ = some (.slice (some ⟨bd, 0, none⟩) n n) := by rw [cell_of hm2.blk]; rfl
        have cu : wr.cell? ⟨bu, j, none⟩ = some (.int .u32 0) := by rw [cell_of hm2.up, rowOf_get _ _ (by rw [hm2.lu]; exact hlt), fill_get _ _ _ hlt]; rfl
        have cd : wr.cell? ⟨bd, j, none⟩ = some (.int .u32 0) := by rw [cell_of hm2.down, rowOf_get _ _ (by rw [hm2.ld]; exact hlt), fill_get _ _ _ hlt]; rfl
        have fu : wr.frozen? ⟨bu, j, none⟩ = false := free_of hm2.up
        have fd : wr.frozen? ⟨bd, j, none⟩ = false := free_of hm2.down
        have n1 := hm2.ne
        have n2 := hm2.ne.symm
        have n3 := hm2.ne1
        have n4 := hm2.ne2
        go_wp2_with fail
        go_region
        all_goals (go_wp2_with fail)
        all_goals go_roundg (n - (j + 1))
        all_goals try (case measure => omega)
        all_goals go_light
        refine ⟨j + 1, by omega, rfl, by go_num, by (repeat first | exact Below.refl _ _ | assumption | refine Below.alloc ?_ (by simp; try omega) _ | refine Below.drew ?_ | refine Below.drewN ?_ _ | refine Below.setCell ?_ (by simp; try omega) _ | refine Below.trans ?_ (Below.mono (by assumption) (by simp; try omega))), ?_⟩
        rw [pow_small j (by omega), ← fill_set _ n j hlt]
        exact ((hm2.setU j (2 ^ j)).setD j (2 ^ j)).drew
      · obtain rfl : j = n := by omega
        go_wp2
        go_ret2
        refine ⟨b, bu, bd, rfl, by simpa using hm2, hb2, g1, g2, g3⟩
end Go.Proofs.YteblahoijolegaaGreatDoor
end
section
set_option linter.all false
namespace Go.Proofs.YteblahoijolegaaGreatDoor
open Go.RowKit
/-- The blocks that 'keep' names are as they were; the streams too. -/
structure Kept (keep : Nat → Prop) (w w' : World) : Prop where
  os : w'.os = w.os
  tape : w'.tape = w.tape
  output : w'.output = w.output
  size : w.heap.size ≤ w'.heap.size
  block : ∀ k, k < w.heap.size → keep k → w'.heap[k]? = w.heap[k]?
theorem Kept.refl (keep : Nat → Prop) (w : World) : Kept keep w w := ⟨rfl, rfl, rfl, Nat.le_refl _, fun _ _ _ => rfl⟩
theorem Kept.trans {keep : Nat → Prop} {a b c : World} (h : Kept keep a b) (k : Kept keep b c) : Kept keep a c :=
  ⟨k.os.trans h.os, k.tape.trans h.tape, k.output.trans h.output, Nat.le_trans h.size k.size, fun i hi hk => (k.block i (Nat.lt_of_lt_of_le hi h.size) hk).trans (h.block i hi hk)⟩
theorem Kept.trans2 {keep keep' : Nat → Prop} {a b c : World} (h : Kept keep a b) (k : Kept keep' b c) (hk : ∀ i, i < a.heap.size → keep i → keep' i) : Kept keep a c :=
  ⟨k.os.trans h.os, k.tape.trans h.tape, k.output.trans h.output, Nat.le_trans h.size k.size, fun i hi hi' => (k.block i (Nat.lt_of_lt_of_le hi h.size) (hk i hi hi')).trans (h.block i hi hi')⟩
theorem Kept.mono {keep keep' : Nat → Prop} {a b : World} (h : Kept keep a b) (hk : ∀ k, k < a.heap.size → keep' k → keep k) : Kept keep' a b :=
  ⟨h.os, h.tape, h.output, h.size, fun i hi hi' => h.block i hi (hk i hi hi')⟩
theorem Kept.alloc {keep : Nat → Prop} {a w : World} (h : Kept keep a w) (o : Obj) : Kept keep a (w.alloc o) :=
  h.trans ⟨rfl, rfl, rfl, by simp, fun k hk _ => Below.heap_alloc _ _ _ hk⟩
theorem Kept.drew {keep : Nat → Prop} {a w : World} (h : Kept keep a w) : Kept keep a w.drew := ⟨h.os, h.tape, h.output, h.size, h.block⟩
theorem Kept.setCell {keep : Nat → Prop} {a w : World} (h : Kept keep a w) {p : Addr} (hp : ¬ keep p.block) (v : Value) : Kept keep a (w.setCell p v) :=
  h.trans ⟨rfl, rfl, rfl, by simp [World.setCell], fun k _ hk => Below.heap_setCell _ _ _ _ (fun e => hp (e ▸ hk))⟩
theorem Kept.putObj {keep : Nat → Prop} {a w : World} (h : Kept keep a w) {r : Nat} (hp : ¬ keep r) (o : Obj) : Kept keep a (w.putObj r o) :=
  h.trans ⟨rfl, rfl, rfl, by simp, fun k _ hk => World.putObj_heap_other (fun e => hp (e ▸ hk))⟩
theorem Kept.putNew {keep : Nat → Prop} {a w : World} (h : Kept keep a w) {r : Nat} (hp : a.heap.size ≤ r) (o : Obj) : Kept keep a (w.putObj r o) :=
  ⟨h.os, h.tape, h.output, by simpa using h.size, fun k hk hk' => (World.putObj_heap_other (by omega)).trans (h.block k hk hk')⟩
theorem Kept.setNew {keep : Nat → Prop} {a w : World} (h : Kept keep a w) {p : Addr} (hp : a.heap.size ≤ p.block) (v : Value) : Kept keep a (w.setCell p v) :=
  ⟨h.os, h.tape, h.output, by simpa [World.setCell] using h.size, fun k hk hk' => (Below.heap_setCell _ _ _ _ (by omega)).trans (h.block k hk hk')⟩
theorem kept_of_below {B : Nat} {w w' : World} (h : Below B w w') {keep : Nat → Prop} (hk : ∀ k, k < w.heap.size → keep k → k < B) : Kept keep w w' :=
  ⟨h.os, h.tape, h.output, h.size, fun k hk' hkk => h.block k (hk k hk' hkk)⟩
theorem Kept.below {B : Nat} {keep : Nat → Prop} {w w' : World} (h : Kept keep w w') (hB : B ≤ w.heap.size) (hk : ∀ k, k < B → keep k) : Below B w w' :=
  ⟨h.os, h.tape, h.output, h.size, fun k hk' => h.block k (Nat.lt_of_lt_of_le hk' hB) (hk k hk')⟩

/-- What an iterator (function g, bound to lb) does when it is handed a yield: it yields xs, one by one, writes to 'own' alone, and wants 'priv' kept by each round. -/
def IterC {α : Type} (P : Program) (g : Nat) (lb : Array Value) (encs : α → Array Value) (xs : List α) (own priv : Nat → Prop) (w : World) : Prop :=
  ∀ (l : Nat) (J : List α → World → Prop) (W : World), Kept priv w W →
    (∀ pre A B, J pre A → Kept (fun k => ¬ own k) A B → J pre B) →
    (∀ pre x A, pre ++ [x] <+: xs → J pre A → YieldAt Fence.wide 0 P l (encs x) A fun e B => e = .returned (.bool true) ∧ J (pre ++ [x]) B ∧ Kept priv A B) →
    J [] W → CallsIn Fence.wide 0 P g (#[.func (.yield l) #[] #[]] ++ lb) W fun e B => (∃ v, e = .returned v) ∧ J xs B

theorem wp_range {α : Type} {P : Program} {g : Operand} {ps : Array Tmp} {assign body : Code} {Q : Exit → Act → World → Prop} {a : Act} {w : World}
    {gf : Nat} {lb : Array Value} (hg : a.eval g = .func (.func gf) #[] lb) (eg : ∀ args w, (callFunc gf args).run P w = .ok (.enter gf args) w)
    {encs : α → Array Value} {xs : List α} {own priv : Nat → Prop} (hc : IterC P gf lb encs xs own priv w) (hps : ∀ x, (encs x).size = ps.size)
    (hpw : ∀ k, priv k → k < w.heap.size) (how : ∀ k, own k → priv k)
    (I : List α → World → Prop) (hI : ∀ pre A B, I pre A → (∃ r, A.heap[w.heap.size + 1]? = some (.loop r)) → Kept (fun k => ¬ own k ∧ k ≠ w.heap.size + 1) A B → I pre B) (h0 : ∀ W1, Kept (fun _ => True) w W1 → w.heap.size + 2 ≤ W1.heap.size → I [] W1) (a₁ : α → Act)
    (hassign : ∀ (l : Nat) (x : α) (W : World) (K : Act → World → Prop), K (a₁ x) W →
      assign.wpIn (Fence.wide.inRound l) 0 P (Exit.then K (fun _ _ _ => False)) { tmps := (ps.zip (encs x)).foldl (fun t (p, v) => t.setIfInBounds p v) a.tmps, defers := [] } W)
    (hbody : ∀ (l : Nat) (pre : List α) (x : α) (W : World), pre ++ [x] <+: xs → I pre W → w.heap.size + 2 ≤ W.heap.size → W.heap[w.heap.size]? = some (.deferred (some [])) → (∃ r, W.heap[w.heap.size + 1]? = some (.loop r)) →
      body.wpIn (Fence.wide.inRound l) 0 P (fun e _ W' => e = .normal ∧ I (pre ++ [x]) W' ∧ Kept (fun k => priv k ∨ k = w.heap.size ∨ k = w.heap.size + 1) W W') (a₁ x) W)
    (hdone : ∀ (D : Nat) (W : World), w.heap.size = D → I xs W → W.heap[D]? = some (.deferred (some [])) → D + 2 ≤ W.heap.size → Q .normal { a with defers := { target := .collected D, args := #[] } :: a.defers } W) :
    (Code.rangeFunc g ps assign body).wpIn Fence.wide 0 P Q a w := by
  refine wpIn_rangeFunc ?_
  intro fn hfn
  obtain ⟨rec, hrec⟩ : ∃ rec : LoopState → Option Code → Loop, rec = fun st pe => { state := st, pending := pe, fn, tmps := a.tmps, params := ps, assign, body, defers := w.heap.size } := ⟨_, rfl⟩
  obtain ⟨W1, hW1⟩ : ∃ W1, (w.alloc (.deferred (some []))).alloc (.loop (rec .ready none)) = W1 := ⟨_, rfl⟩
  have hL1 : W1.heap[w.heap.size + 1]? = some (.loop (rec .ready none)) := by
    rw [← hW1]; have := World.alloc_heap_new (w.alloc (.deferred (some []))) (.loop (rec .ready none)); rwa [World.size_alloc] at this
  have hK1 : W1.heap[w.heap.size]? = some (.deferred (some [])) := by
    rw [← hW1]; exact (Below.heap_alloc _ _ _ (by simp)).trans (World.alloc_heap_new w _)
  have hk1 : ∀ keep, Kept keep w W1 := fun keep => by rw [← hW1]; exact ((Kept.refl _ w).alloc _).alloc _
  have hs1 : w.heap.size + 2 ≤ W1.heap.size := by rw [← hW1]; simp
  have hI1 : I [] W1 := h0 _ (hk1 _) hs1
  refine ⟨w.heap.size + 1, [{ target := .collected w.heap.size, args := #[] }], W1, { target := .fn (.func gf) lb, args := #[.func (.yield (w.heap.size + 1)) #[] #[]] }, W1, gf,
    #[.func (.yield (w.heap.size + 1)) #[] #[]] ++ lb, W1, ?_, ?_, ?_, ?_, fun h => by simp [Fence.wide] at h, ?_⟩
  · rw [← hW1, hrec]; exact run_enterLoop_outer _ _ _ _ _
  · simp only [resolve, hg]
    simp [go_sem]
  · intro f' hf'; trivial
  · simp [invoke, go_sem, eg]
  · have hno : ∀ k, w.heap.size ≤ k → ¬ own k := fun k hk ho => by have := hpw k (how k ho); omega
    refine (hc (w.heap.size + 1)
      (fun pre W => I pre W ∧ W.heap[w.heap.size + 1]? = some (.loop (rec .ready none)) ∧ W.heap[w.heap.size]? = some (.deferred (some [])) ∧ w.heap.size + 2 ≤ W.heap.size)
      W1 (hk1 _)
      (fun pre A B hs hk => ⟨hI pre A B hs.1 ⟨_, hs.2.1⟩ (hk.mono fun k _ h => h.1), (hk.block _ (by have := hs.2.2.2; omega) (hno _ (by omega))).trans hs.2.1, (hk.block _ (by have := hs.2.2.2; omega) (hno _ (by omega))).trans hs.2.2.1, Nat.le_trans hs.2.2.2 hk.size⟩)
      ?_ ⟨hI1, hL1, hK1, hs1⟩).mono ?_
    · rintro pre x W hpx ⟨hi, hl, hk, hsz⟩
      have hlt : w.heap.size + 1 < W.heap.size := by omega
      have hy := run_yield (P := P) (args := encs x) hl (by rw [hrec]; exact hps x)
      rw [hrec] at hy
      refine ⟨fn, _, assign, body, hy, roundIn_of_wpIn hfn (hassign _ x W _ ⟨_, run_beginRound hl (by rw [hrec]), ?_⟩)⟩
      have hl2 : (W.putObj (w.heap.size + 1) (.loop { rec .ready none with state := .busy })).heap[w.heap.size + 1]? = some (.loop { rec .ready none with state := .busy }) := World.putObj_heap_same hlt
      have hk2 : (W.putObj (w.heap.size + 1) (.loop { rec .ready none with state := .busy })).heap[w.heap.size]? = some (.deferred (some [])) := (World.putObj_heap_other (by omega)).trans hk
      refine wpIn_mono (hbody _ pre x _ hpx (hI _ _ _ hi ⟨_, hl⟩ ((Kept.refl _ W).putObj (by omega) _)) (by simpa using hsz) hk2 ⟨_, hl2⟩) ?_
      rintro e a3 W3 ⟨rfl, hi3, hk3⟩
      have hl3 : W3.heap[w.heap.size + 1]? = some (.loop { rec .ready none with state := .busy }) := (hk3.block _ (by simpa using hlt) (.inr (.inr rfl))).trans hl2
      have hd3 : W3.heap[w.heap.size]? = some (.deferred (some [])) := (hk3.block _ (by simp; omega) (.inr (.inl rfl))).trans hk2
      have hz3 : w.heap.size + 2 ≤ W3.heap.size := by have := hk3.size; simp at this; omega
      have hr := run_endRound (P := P) none hl3
      rw [hrec] at hr hl2 hl3
      refine ⟨_, _, hr, rfl, ⟨hI _ _ _ hi3 ⟨_, hl3⟩ ((Kept.refl _ W3).putObj (by omega) _), ?_, ?_, by simpa using hz3⟩, ?_⟩
      · rw [hrec]; exact World.putObj_heap_same (by omega)
      · exact (World.putObj_heap_other (by omega)).trans hd3
      · have k1 : Kept priv W (W.putObj (w.heap.size + 1) (.loop { rec .ready none with state := .busy })) := (Kept.refl _ W).putObj (fun hp => by have := hpw _ hp; omega) _
        exact (k1.trans (hk3.mono fun k _ h => .inl h)).putObj (fun hp => by have := hpw _ hp; omega) _
    · rintro e W2 ⟨⟨v, rfl⟩, hi, hl, hk, hsz⟩
      exact ⟨none, _, by have := run_endLoop (P := P) hl (by rw [hrec]; simp); rw [hrec] at this; exact this, hdone _ _ rfl (hI _ _ _ hi ⟨_, hl⟩ ((Kept.refl _ W2).putObj (by omega) _)) ((World.putObj_heap_other (by omega)).trans hk) (by simpa using hsz)⟩
/-- a function's contract out of its body's walk, where the body holds ranges over functions -/
theorem calls_of_marks {P : Program} {f : FuncId} {fn : Func} {c : Code} {args : Array Value} {w : World} {R : Ending → World → Prop}
    (hf : P.funcs[f]? = some fn) (hb : fn.body = some c)
    (h : c.wp P (bodyPostM Fence.wide 0 P fn R) { tmps := args ++ Array.replicate (fn.ntmps - args.size) undef, defers := [] } w) : Calls P f args w R :=
  (callsIn_wide (n := 0)).1 (callsIn_of_wp_marks hf hb trivial (wpIn_wide.2 h))
end Go.Proofs.YteblahoijolegaaGreatDoor
end
section
set_option linter.all false
namespace Go.Proofs.YteblahoijolegaaGreatDoor
open Go.RowKit

/-- de Bruijn's table, as the library lays it -/
def dbTab : List Nat := [0, 1, 28, 2, 29, 14, 24, 3, 30, 22, 20, 15, 25, 17, 4, 8, 31, 27, 13, 23, 21, 19, 16, 7, 26, 12, 18, 6, 11, 5, 10, 9]
def DbAt (w : World) : Prop := ∀ i, i < 32 → w.cell? ⟨0, i, none⟩ = some (.int .u8 (dbTab[i]?.getD 0 : Nat))
/-- the lowest bit's number -/
def tz (s : Nat) : Nat := ((List.range 16).find? s.testBit).getD 32
def dbIdx (s : Nat) : Nat := ((s &&& (4294967296 - s)) * 125613361 % 4294967296) / 134217728
theorem db_all : ∀ s < 1024, 0 < s → dbIdx s < 32 ∧ dbTab[dbIdx s]?.getD 0 = tz s ∧ tz s < 10 := by decide +kernel
theorem low_and (s : Nat) (h : s < 1024) (h0 : 0 < s) : bits .and .u32 (s : Int) ((-(s : Int)) % 4294967296) = ((s &&& (4294967296 - s) : Nat) : Int) := by
  have e : (-(s : Int)) % 4294967296 = ((4294967296 - s : Nat) : Int) := by omega
  rw [e, u32_and_nat _ _ (by omega) (by omega)]

set_option maxHeartbeats 400000 in
theorem tz32 (s : Nat) (w : World) (h : s < 1024) (h0 : 0 < s) (ht : DbAt w) :
    Calls Tryz.prog 190 #[.int .u32 s] w fun e w' => e = .returned (.int .i64 (tz s)) ∧ w = w' := by
  obtain ⟨h1, h2, h3⟩ := db_all s h h0
  have hc := ht _ h1
  rw [h2] at hc
  have hl := low_and s h h0
  have H := Lib.hid h2; clear h2
  have hs0 : ((s : Int) == 0) = false := by rw [beq_eq_false_iff_ne]; omega
  unfold dbIdx at hc
  go_enter Tryz.func190, Tryz.ntmps190
  go_wp2
  go_ret
  exact ⟨rfl, rfl⟩

/-- the things of a set, rising -/
def lows (s : Nat) : List Nat := (List.range 16).filter s.testBit
theorem lows_step : ∀ s < 1024, 0 < s → lows s = tz s :: lows (s &&& (s - 1)) := by decide +kernel
theorem lows_zero : lows 0 = [] := by decide
def cellNat (w : World) (b : Nat) : Nat := match w.cell? ⟨b, 0, none⟩ with | some (.int _ n) => n.toNat | _ => 0

theorem DbAt.kept {w w' : World} {keep : Nat → Prop} (h : DbAt w) (hk : Kept keep w w') (h0 : keep 0) : DbAt w' := fun i hi => by
  have hc := h i hi
  have hlt : 0 < w.heap.size := by
    unfold World.cell? at hc
    rcases Nat.lt_or_ge 0 w.heap.size with h | h
    · exact h
    · simp [Array.getElem?_eq_none h] at hc
  rw [World.cell?_of_block (w := w) (hk.block _ hlt h0)]
  exact hc

set_option maxHeartbeats 1000000 in
theorem all1_iter (bs s : Nat) (w : World) (hs : s < 1024) (hc : w.heap[bs]? = some (.cells #[.int .u32 (s : Nat)] 229)) (ht : DbAt w) (hb : bs ≠ 0) :
    IterC Tryz.prog 189 #[.pointer (some ⟨bs, 0, none⟩)] (fun x : Nat => #[.int .i64 x]) (lows s) (· = bs) (fun k => k = bs ∨ k = 0) w := by
  intro l J W hK hJ hY h0
  have hW : W.heap[bs]? = some (.cells #[.int .u32 (s : Nat)] 229) := (hK.block _ (Array.getElem?_eq_some_iff.1 hc).1 (.inl rfl)).trans hc
  have htW : DbAt W := ht.kept hK (.inr rfl)
  refine callsIn_of_wp Tryz.func189 rfl trivial ?_ rfl
  simp only [Tryz.ntmps189, List.size_toArray, List.length_cons, List.length_nil, Nat.reduceAdd, Nat.reduceSub, Array.replicate_succ, Array.replicate_zero, List.push_toArray, List.append_toArray, List.nil_append, List.cons_append]
  gi_wp2
  gi_loopw [] (fun wr => ∃ (pre : List Nat) (s' : Nat), lows s = pre ++ lows s' ∧ s' < 1024 ∧ wr.heap[bs]? = some (.cells #[.int .u32 (s' : Nat)] 229) ∧ J pre wr ∧ DbAt wr) (fun wr => cellNat wr bs)
  case atStart => exact ⟨[], s, rfl, hs, hW, h0, htW⟩
  case round =>
    obtain ⟨pre, s', hpre, hs', hcell, hJs, htr⟩ := hrel
    have c0 : wr.cell? ⟨bs, 0, none⟩ = some (.int .u32 (s' : Nat)) := by rw [cell_of hcell]; rfl
    have f0 : wr.frozen? ⟨bs, 0, none⟩ = false := free_of hcell
    rcases Nat.eq_zero_or_pos s' with rfl | hp
    · gi_wp2
      go_end0
      exact ⟨⟨_, rfl⟩, by rw [hpre, lows_zero, List.append_nil]; exact hJs⟩
    · have hne : ((s' : Int) != 0) = true := by rw [bne_iff_ne]; omega
      have hstep := lows_step s' hs' hp
      obtain ⟨fn, tmps, assign, body, hy, hR⟩ := hY pre (tz s') wr (by rw [hpre, hstep]; exact ⟨lows (s' &&& (s' - 1)), by simp⟩) hJs
      have H := Lib.hid hstep; clear hstep
      have H2 := Lib.hid hpre; clear hpre
      gi_wp2_with fail
      refine ⟨trivial, rfl, ?_⟩
      refine (callsIn_wide.2 (tz32 s' _ hs' hp htr)).mono ?_; rintro e w' ⟨rfl, rfl⟩
      gi_wp2_with fail
      refine ⟨rfl, ?_⟩
      refine hR.mono ?_
      rintro e W3 ⟨rfl, hJ3, hk3⟩
      have hcell3 : W3.heap[bs]? = some (.cells #[.int .u32 (s' : Nat)] 229) := (hk3.block _ (Array.getElem?_eq_some_iff.1 hcell).1 (.inl rfl)).trans hcell
      have c3 : W3.cell? ⟨bs, 0, none⟩ = some (.int .u32 (s' : Nat)) := by rw [cell_of hcell3]; rfl
      have f3 : W3.frozen? ⟨bs, 0, none⟩ = false := free_of hcell3
      have ht3 : DbAt W3 := htr.kept hk3 (.inr rfl)
      gi_wp2_with fail
      have e1 : bits .and .u32 (s' : Int) ((s' : Int) - 1) = ((s' &&& (s' - 1) : Nat) : Int) := by
        rw [show (s' : Int) - 1 = ((s' - 1 : Nat) : Int) from by omega, u32_and_nat _ _ (by omega) (by omega)]
      have l1 : s' &&& (s' - 1) < s' := Nat.lt_of_le_of_lt Nat.and_le_right (by omega)
      rw [e1]
      refine ⟨⟨pre ++ [tz s'], s' &&& (s' - 1), by rw [H2.out, H.out]; simp, by omega, by rw [heap_set _ hcell3]; rfl, hJ _ _ _ hJ3 ((Kept.refl _ _).setCell (by simp) _), ht3.kept (keep := (· = 0)) ((Kept.refl _ _).setCell hb _) rfl⟩, ?_⟩
      unfold cellNat
      rw [c0, cell_of (heap_set _ hcell3)]
      simpa using l1

set_option maxHeartbeats 400000 in
theorem set_all (s : Nat) (w : World) :
    Calls Tryz.prog 152 #[.int .u32 s] w fun e w' => e = .returned (.func (.func 189) #[] #[.pointer (some ⟨w.heap.size, 0, none⟩)]) ∧ w' = w.alloc (.cells #[.int .u32 s] 229) := by
  go_enter Tryz.func152, Tryz.ntmps152
  go_wp2
  go_ret
  exact ⟨rfl, rfl⟩
end Go.Proofs.YteblahoijolegaaGreatDoor
end
section
set_option linter.all false
namespace Go.Proofs.YteblahoijolegaaGreatDoor
open Go.RowKit
attribute [local go_sem] Oper.semAt_some

theorem Tryz.infoInt : (Tryz.prog.info? 3).map (fun i => (i.zero, i.size, i.bytes)) = some (some (.int .i64 0), 1, 8) := by kernel_rfl

theorem le_maxLen {n : Nat} (h : n ≤ 1000000) : n ≤ maxLen := by unfold maxLen; omega
theorem ownsRow_block {A B : World} {base : Nat} {e : TypeId} {size n : Nat} {v : Value} {xs : List Value} (h : A.ownsRow base e size v n xs) (hb : ∀ g, v.ownBlock = some g → B.heap[g]? = A.heap[g]?) : B.ownsRow base e size v n xs := by
  refine ⟨h.1, ?_⟩
  rcases h.2 with h2 | ⟨g, cap, cur, rfl, h3, h4, h5⟩
  · exact .inl h2
  · exact .inr ⟨g, cap, cur, rfl, h3, (hb g rfl).trans h4, h5⟩
theorem ownsRow_cells {A : World} {base : Nat} {e : TypeId} {size n : Nat} {v : Value} {xs : List Value} (h : A.ownsRow base e size v n xs) {g : Nat} (hg : v.ownBlock = some g) : base ≤ g ∧ ∃ c, A.heap[g]? = some (.cells c e) := by
  rcases h.2 with ⟨rfl, _⟩ | ⟨g', cap, cur, rfl, h3, h4, _⟩
  · simp [Value.ownBlock] at hg
  · simp [Value.ownBlock] at hg; subst hg; exact ⟨h3, _, h4⟩
theorem appended_kept {W w1 : World} {B : Nat} {v v' : Value} {tmp : Obj} {keep : Nat → Prop} (hgrow : (W.alloc tmp).grownBy w1 v.ownBlock) (hk : ∀ k, k < W.heap.size → keep k → some k ≠ v.ownBlock ∧ k ≠ B) : Kept keep W (w1.setCell ⟨B, 0, none⟩ v') :=
  ⟨hgrow.os, hgrow.tape, hgrow.output, by have := hgrow.size; simp at this; simp [World.setCell]; omega, fun k hk1 hk2 => (heap_setne _ (hk k hk1 hk2).2).trans ((hgrow.block k (by simp; omega) (hk k hk1 hk2).1).trans (heap_old hk1))⟩

/-- slices.AppendSeq at nil, of an iterator that yields xs -/
theorem appendSeq_int {gf : Nat} {lb : Array Value} (eg : ∀ args w, (callFunc gf args).run Tryz.prog w = .ok (.enter gf args) w) (xs : List Nat) (hxs : xs.length ≤ 1000) (own priv : Nat → Prop) (how : ∀ k, own k → priv k) (w : World)
    (hpw : ∀ k, priv k → k < w.heap.size) (hc : ∀ w', Kept (fun _ => True) w w' → IterC Tryz.prog gf lb (fun x : Nat => #[.int .i64 x]) xs own priv w') :
    Calls Tryz.prog 263 #[.slice none 0 0, .func (.func gf) #[] lb] w fun e w' => ∃ v, e = .returned v ∧ w'.ownsRow w.heap.size 3 1 v xs.length (xs.map fun x => Value.int .i64 (x : Nat)) ∧ Kept (fun k => ¬ own k) w w' := by
  obtain ⟨i0, hi, hz0, hz1, hz2⟩ := info_parts Tryz.infoInt
  refine calls_of_marks Tryz.func263 rfl ?_; simp only [Tryz.ntmps263, List.size_toArray, List.length_cons, List.length_nil, Nat.reduceAdd, Nat.reduceSub, Array.replicate_succ, Array.replicate_zero, List.push_toArray, List.append_toArray, List.nil_append, List.cons_append]
  go_wp2_with fail
  have bO := Boxed.new w 63 (.slice none 0 0)
  refine (wpIn_wide (n := 0)).1 ?_
  refine' wp_range (gf := gf) (lb := lb) rfl eg (hc _ ((Kept.refl _ w).alloc _)) (fun _ => rfl) (fun k hk => by have := hpw k hk; simp; omega) how
      (fun pre W => ∃ v, Boxed W w.heap.size 63 v ∧ W.ownsRow w.heap.size 3 1 v pre.length (pre.map fun x => Value.int .i64 (x : Nat)) ∧ Kept (fun k => ¬ own k) w W)
      ?hI ?h0 _ ?hassign ?hbody ?hdone
  case hI =>
    rintro pre A B ⟨v, hv, hrow, hk⟩ ⟨r, hL⟩ hk2
    refine ⟨v, (hk2.block _ hv.lt ⟨fun h => by have := hpw _ (how _ h); omega, by (first | omega | (simp; done) | (simp; omega))⟩).trans hv, ?_, hk.trans2 hk2 (fun k hk h => ⟨h, by simp; omega⟩)⟩
    refine ownsRow_block hrow fun g hg => ?_
    obtain ⟨h1, c, h2⟩ := ownsRow_cells hrow hg
    refine hk2.block _ (Array.getElem?_eq_some_iff.1 h2).1 ⟨fun h => by have := hpw _ (how _ h); omega, ?_⟩
    rintro rfl
    rw [hL] at h2; cases h2
  case h0 =>
    intro V hV hVs
    exact ⟨_, (hV.block _ (by simp) trivial).trans bO, World.ownsRow_nil _ _ _ _, ((Kept.refl _ w).alloc _).trans2 hV (fun _ _ _ => trivial)⟩
  case hassign =>
    intro l x W K hK
    gi_wp2
    exact hK
  case hbody =>
    rintro l pre x W hpx ⟨v, hv, hrow, hk⟩ hsz hD ⟨r, hL⟩
    have hc := hv.cell
    have hpl : pre.length < xs.length := by have := hpx.length_le; simp at this; omega
    have hm1 : pre.length + 1 ≤ maxLen := le_maxLen (by omega)
    have hm2 : (pre.length + 1) * 8 ≤ 140737488355328 := by omega
    simp only [World.size_alloc] at hD hL
    have hsz' : w.heap.size + 3 ≤ W.heap.size := by simpa using hsz
    gi_wp2_with (gi_at_builtin; refine wpListIn_append_own _ rfl _ _ 63 rfl w.heap.size 3 i0 (.int .i64 0) 1 8 Tryz.underlying63 hi hz0 hz1 hz2 rfl (by decide) _ _ _ rfl (hrow.alloc _) ⟨W.heap.size, 0, none⟩ 1 1 [.int .i64 x] rfl rfl (cell_one_new _ _ _) (by simp [Value.oneCell']) hm1 hm2 (by simp; omega) ?_; intro v' w1 hown' hgrow _; obtain ⟨g', cap', rfl⟩ := ownsRow_succ hown'; obtain ⟨hv1, hv2, hr2, hk2, hb2⟩ := hv.appended (by decide) hrow (by omega) (Nat.le_refl _) hown' hgrow; have hc1 := hv1.cell; have hf1 := hv1.frozen)
    have hno : ∀ k, k < W.heap.size → (∀ c, W.heap[k]? ≠ some (.cells c 3)) → some k ≠ v.ownBlock := fun k _ h e => by obtain ⟨_, c, h2⟩ := ownsRow_cells hrow e.symm; exact h c h2
    have hno2 : ∀ k, k < w.heap.size → some k ≠ v.ownBlock := fun k h e => by obtain ⟨h1, _⟩ := ownsRow_cells hrow e.symm; omega
    refine ⟨⟨_, hv2, by simpa using hr2, hk.trans2 (appended_kept (keep := fun k => k < w.heap.size ∧ ¬ own k) hgrow fun k hk1 hk2 => ⟨hno2 k hk2.1, by omega⟩) (fun k h1 h2 => ⟨h1, h2⟩)⟩, appended_kept hgrow ?_⟩
    rintro k hk1 (hp | rfl | rfl)
    · have := hpw k hp; exact ⟨hno2 k this, by omega⟩
    · exact ⟨hno _ hk1 (by rw [hD]; simp), by omega⟩
    · exact ⟨hno _ hk1 (by rw [hL]; simp), by omega⟩
  case hdone =>
    rintro D W hDe ⟨v, hv, hrow, hk⟩ hD hsz
    have hc := hv.cell
    go_wp2_with fail
    refine ⟨by simp, .inl ⟨_, _, rfl, run_takeDeferred hD, ⟨_, results_tmp rfl _ _ _, v, rfl, ownsRow_putObj hrow _ hD rfl, hk.putNew (by simp at hDe; omega) _⟩⟩⟩
end Go.Proofs.YteblahoijolegaaGreatDoor
end
