import Derived.Test.YteblahoijolegaaGreatDoorM09
import Derived.BigQuiet
import Derived.BigRegion
import Derived.ChangeAlike
import Derived.Deep.DeepCutAuto
import Derived.Deep.Light
import Derived.Deep.LoopGhost
import Derived.Deep.MidRow
import Derived.Deep.QuietTactic
import Derived.Deep.RegionHeld3
import Derived.Deep.WholeRow
import Derived.Defers
import Derived.Great.Walk
import Derived.Laws.BitsAllLaws
import Derived.Laws.CopyOwn
import Derived.Laws.EntriesVeiled
import Derived.Laws.LoneSync
import Derived.Laws.Pointers
import Derived.Laws.StructEq
import Derived.Lib.Hide
import Derived.Lib.LazyBuf
import Derived.Lib.SliceRun
import Derived.LoopIn
import Derived.LoopNIn
import Derived.Maps.AppendAt
import Derived.OwnWalkIn
import Derived.RangeFuncBox
import Derived.RangeFuncKeeps
import Derived.RangeFuncLeaves
import Derived.RangeFuncSeq
import Derived.RegionCalls
import Derived.RegionIn
import Derived.RegionTactic
import Derived.Shelf.Abstract
import Derived.TacticsInMore
import Derived.Test.YteblahoijolegaaGreatDoorShelf
import Derived.WalkKit
import Derived.WalkLawsBesides
import Derived.WalkSpells
import Derived.WideLaws
section
set_option linter.all false
namespace Go.Proofs.YteblahoijolegaaGreatDoor
open Go.RowKit

theorem policy_path (s : ByteArray) (w : World) (hs : s.size ≤ 9223372036854775807) : Calls Tryz.prog 121 #[.string s] w fun e w' => e = .returned (.bool (pathB s)) ∧ Below w.heap.size w w' := by
  obtain ⟨w0, hw0⟩ : ∃ w0 : World, w0 = (w.alloc (.cells #[.string hostN, .string hostX] 249)).alloc (.cells #[.string ⟨#[71, 69, 84]⟩, .string s, .int .i64 0, .slice (some ⟨w.heap.size, 0, none⟩) 1 1, .slice none 0 0] 252) := ⟨_, rfl⟩
  have hb0 : Below w.heap.size w w0 := by rw [hw0]; (repeat first | exact Below.refl _ _ | assumption | refine Below.alloc ?_ (by simp; try omega) _ | refine Below.drew ?_ | refine Below.drewN ?_ _ | refine Below.setCell ?_ (by simp; try omega) _ | refine Below.trans ?_ (Below.mono (by assumption) (by simp; try omega)))
  have hn : w0.heap[w.heap.size]? = some (.cells #[.string hostN, .string hostX] 249) := by rw [hw0]; (simp only [heap_drew, heap_allocs, World.size_alloc, if_true] <;> repeat (first | rw [if_pos (by omega)] | rw [if_neg (by omega)]))
  have hc := http_Check s w.heap.size 1 w0 hs (Array.getElem?_eq_some_iff.1 hn).1 (cell_of (o := 0) hn) (cell_of (o := 1) hn)
  have HC := Lib.hid hc; clear hc
  have HW := Lib.hid hw0; clear hw0 hn
  go_enter Tryz.func121, Tryz.ntmps121
  go_wp2_with fail
  have hc := HC.out
  have hw := HW.out
  rw [hw] at hc hb0
  refine hc.mono ?_
  clear hc
  rintro e w1 ⟨rfl, hb1⟩
  have hb2 := hb0.trans (hb1.mono hb0.size)
  cases hp : pathB s
  · go_wp2
    go_ret
    exact ⟨by rw [hp]; rfl, hb2⟩
  · go_wp2
    go_ret
    exact ⟨by rw [hp]; rfl, hb2⟩

/-- a key that a list is searched by -/
def KeyC (g : Nat) (el v : Value) : Prop := ∀ W, Calls Tryz.prog g #[el] W fun e W' => e = .returned v ∧ Below W.heap.size W W'
def sameS (a b : ByteArray) : Bool := a.toList == b.toList
set_option maxHeartbeats 2000000 in
set_option maxRecDepth 20000 in
theorem twice1_source (a off n cp : Nat) (c : Nat → Nat → Value) (ks : Nat → ByteArray) (g : Nat) (eg : ∀ args w, (callFunc g args).run Tryz.prog w = .ok (.enter g args) w) (w : World) (k i : Nat) (hi : i < n) (hn : n ≤ 100000)
    (hs : SlAt w (some ⟨a, off, none⟩) n 3 c) (hk1 : KeyC g (.agg #[c k 0, c k 1, c k 2]) (.string (ks k))) (hk2 : KeyC g (.agg #[c i 0, c i 1, c i 2]) (.string (ks i))) (bk bl bi : Nat)
    (q1 : w.cell? ⟨bk, 0, none⟩ = some (.func (.func g) #[] #[])) (q2 : w.cell? ⟨bl, 0, none⟩ = some (.slice (some ⟨a, off, none⟩) n cp)) (q3 : w.cell? ⟨bi, 0, none⟩ = some (.int .i64 i)) :
    Calls Tryz.prog 170 #[.agg #[c k 0, c k 1, c k 2], .pointer (some ⟨bk, 0, none⟩), .pointer (some ⟨bl, 0, none⟩), .pointer (some ⟨bi, 0, none⟩)] w fun e w' => e = .returned (.bool (sameS (ks k) (ks i))) ∧ Below w.heap.size w w' := by
  have hi2 : (i : Int) < n := by omega
  obtain ⟨w0, hw0⟩ : ∃ w0 : World, w0 = w.alloc (.cells #[c k 0, c k 1, c k 2] 96) := ⟨_, rfl⟩
  have hb0 : Below w.heap.size w w0 := by rw [hw0]; (repeat first | exact Below.refl _ _ | assumption | refine Below.alloc ?_ (by simp; try omega) _ | refine Below.drew ?_ | refine Below.drewN ?_ _ | refine Below.setCell ?_ (by simp; try omega) _ | refine Below.trans ?_ (Below.mono (by assumption) (by simp; try omega)))
  have hn0 : w0.heap[w.heap.size]? = some (.cells #[c k 0, c k 1, c k 2] 96) := by rw [hw0]; exact heap_new w _
  have hlt : w.heap.size < w0.heap.size := (Array.getElem?_eq_some_iff.1 hn0).1
  obtain ⟨a', off', hao, hcs⟩ : ∃ a' off', some (⟨a, off, none⟩ : Addr) = some ⟨a', off', none⟩ ∧ ∀ i, i < n → ∀ j, j < 3 → w.cell? ⟨a', off' + i * 3 + j, none⟩ = some (c i j) := by
    rcases hs with h | h
    · omega
    · exact h
  cases hao
  have d0 := hcs i hi 0 (by omega); have d1 := hcs i hi 1 (by omega); have d2 := hcs i hi 2 (by omega); simp only [Nat.add_zero] at d0
  clear hcs
  have l1 := (hb0.cell (p := ⟨bk, 0, none⟩) (cell_lt q1)).trans q1
  have l2 := (hb0.cell (p := ⟨bl, 0, none⟩) (cell_lt q2)).trans q2
  have l3 := (hb0.cell (p := ⟨bi, 0, none⟩) (cell_lt q3)).trans q3
  have e0 := cell_of (o := 0) hn0; have e1 := cell_of (o := 1) hn0; have e2 := cell_of (o := 2) hn0; have f0 := (hb0.cell (cell_lt d0)).trans d0; have f1 := (hb0.cell (cell_lt d1)).trans d1; have f2 := (hb0.cell (cell_lt d2)).trans d2; clear d0 d1 d2
  have hai : 0 ≤ (i : Int) := by omega
  have HK1 := Lib.hid hk1; clear hk1
  have HK2 := Lib.hid hk2; clear hk2
  have HW := Lib.hid hw0; clear hw0
  clear hs hn0 q1 q2 q3
  go_enter Tryz.func170, Tryz.ntmps170
  go_wp2_with fail
  rw [← HW.out]
  have tok0 : True := trivial
  first
    | go_region_held3 (fun w' => w'.cell? ⟨bk, 0, none⟩ = some (.func (.func g) #[] #[]) ∧ w'.cell? ⟨bl, 0, none⟩ = some (.slice (some ⟨a, off, none⟩) n cp) ∧ w'.cell? ⟨bi, 0, none⟩ = some (.int .i64 i) ∧ w'.cell? ⟨w.heap.size, 0, none⟩ = some (c k 0) ∧ w'.cell? ⟨w.heap.size, 1, none⟩ = some (c k 1) ∧ w'.cell? ⟨w.heap.size, 2, none⟩ = some (c k 2) ∧ w'.cell? ⟨a, off + i * 3, none⟩ = some (c i 0) ∧ w'.cell? ⟨a, off + i * 3 + 1, none⟩ = some (c i 1) ∧ w'.cell? ⟨a, off + i * 3 + 2, none⟩ = some (c i 2))
        (first | exact ⟨l1, l2, l3, e0, e1, e2, f0, f1, f2⟩ | (go_split_ands; (repeat' apply And.intro) <;> first | assumption | exact (hbB.cell (cell_lt (by assumption))).trans (by assumption) | exact (hbA.cell (cell_lt (by assumption))).trans (by assumption)))
        (first
          | (have _t := tok0; refine (HK1.out _).mono ?_; rintro e w1 ⟨rfl, hbA⟩; clear tok0; have tok1 : True := trivial)
          | (have _t := tok1; refine (HK2.out _).mono ?_; rintro e w2 ⟨rfl, hbB⟩))
    | fail
  all_goals
    have hb1 : Below w.heap.size w w1 := hb0.trans (((Below.refl w0.heap.size w0).drew.trans hbA).mono hb0.size)
    have hb2 : Below w.heap.size w w2 := hb1.trans (hbB.mono hb1.size)
    go_wp2_with fail
    go_ret
    exact ⟨rfl, hb2⟩
theorem slAt_take_source {w : World} {ao : Option Addr} {n i : Nat} {c : Nat → Nat → Value} (h : SlAt w ao n 3 c) (hi : i < n) : SlAt w ao i 3 c := by
  rcases h with h | ⟨a, off, h1, h2⟩
  · omega
  · exact .inr ⟨a, off, h1, fun k hk j hj => h2 k (by omega) j hj⟩
set_option maxHeartbeats 1000000 in
theorem twice_source (a off n cp : Nat) (c : Nat → Nat → Value) (ks : Nat → ByteArray) (g : Nat) (eg : ∀ args w, (callFunc g args).run Tryz.prog w = .ok (.enter g args) w) (w : World) (i : Nat) (hi : i < n) (hn : n ≤ 100000) (hcp : n ≤ cp)
    (hs : SlAt w (some ⟨a, off, none⟩) n 3 c) (hk : ∀ k, k < n → KeyC g (.agg #[c k 0, c k 1, c k 2]) (.string (ks k))) :
    Calls Tryz.prog 110 #[.slice (some ⟨a, off, none⟩) n cp, .int .i64 i, .func (.func g) #[] #[]] w fun e w' => e = .returned (.bool (anyx (fun k => sameS (ks k) (ks i)) i)) ∧ Below w.heap.size w w' := by
  obtain ⟨w0, hw0⟩ : ∃ w0 : World, w0 = ((w.alloc (.cells #[.slice (some ⟨a, off, none⟩) n cp] 24)).alloc (.cells #[.int .i64 i] 3)).alloc (.cells #[.func (.func g) #[] #[]] 97) := ⟨_, rfl⟩
  have hb0 : Below w.heap.size w w0 := by rw [hw0]; (repeat first | exact Below.refl _ _ | assumption | refine Below.alloc ?_ (by simp; try omega) _ | refine Below.drew ?_ | refine Below.drewN ?_ _ | refine Below.setCell ?_ (by simp; try omega) _ | refine Below.trans ?_ (Below.mono (by assumption) (by simp; try omega)))
  have g1 : w0.heap[w.heap.size]? = some (.cells #[.slice (some ⟨a, off, none⟩) n cp] 24) := by rw [hw0]; (simp only [heap_drew, heap_allocs, World.size_alloc, if_true] <;> repeat (first | rw [if_pos (by omega)] | rw [if_neg (by omega)]))
  have g2 : w0.heap[w.heap.size + 1]? = some (.cells #[.int .i64 i] 3) := by rw [hw0]; (simp only [heap_drew, heap_allocs, World.size_alloc, if_true] <;> repeat (first | rw [if_pos (by omega)] | rw [if_neg (by omega)]))
  have g3 : w0.heap[w.heap.size + 2]? = some (.cells #[.func (.func g) #[] #[]] 97) := by rw [hw0]; (simp only [heap_drew, heap_allocs, World.size_alloc, if_true] <;> repeat (first | rw [if_pos (by omega)] | rw [if_neg (by omega)]))
  have q1 := cell_of (o := 0) g1
  have q2 := cell_of (o := 0) g2
  have q3 := cell_of (o := 0) g3
  have hs0 := hs.below hb0
  have hcf := containsFunc_source (some ⟨a, off, none⟩) i cp (by omega) c (fun k => sameS (ks k) (ks i)) 170 #[.pointer (some ⟨w.heap.size + 2, 0, none⟩), .pointer (some ⟨w.heap.size, 0, none⟩), .pointer (some ⟨w.heap.size + 1, 0, none⟩)]
    (enters_of Tryz.func170 (by kernel_rfl) rfl) w0 (slAt_take_source hs0 hi) (fun k hk2 W hW => by
      refine twice1_source a off n cp c ks g eg W k i hi hn (hs0.below hW) (hk k (by omega)) (hk i hi) (w.heap.size + 2) w.heap.size (w.heap.size + 1) ?_ ?_ ?_
      · exact (hW.cell (p := ⟨w.heap.size + 2, 0, none⟩) (cell_lt q3)).trans q3
      · exact (hW.cell (p := ⟨w.heap.size, 0, none⟩) (cell_lt q1)).trans q1
      · exact (hW.cell (p := ⟨w.heap.size + 1, 0, none⟩) (cell_lt q2)).trans q2)
  have HCF := Lib.hid hcf; clear hcf
  have HW := Lib.hid hw0; clear hw0
  have hi2 : (i : Int) ≤ n := by omega
  have hi3 : (i : Int) ≤ cp := by omega
  have hn3 : (n : Int) ≤ cp := by omega
  have hi0 : (0 : Int) ≤ i := by omega
  clear hs hs0 hk g1 g2 g3
  go_enter Tryz.func110, Tryz.ntmps110
  go_wp2_with fail
  rw [← HW.out]
  refine HCF.out.mono ?_
  rintro e w1 ⟨rfl, hb1⟩
  have hb2 := hb0.trans (hb1.mono hb0.size)
  go_wp2_with fail
  go_ret
  exact ⟨rfl, hb2⟩
set_option maxHeartbeats 2000000 in
set_option maxRecDepth 20000 in
theorem twice1_dest (a off n cp : Nat) (c : Nat → Nat → Value) (ks : Nat → ByteArray) (g : Nat) (eg : ∀ args w, (callFunc g args).run Tryz.prog w = .ok (.enter g args) w) (w : World) (k i : Nat) (hi : i < n) (hn : n ≤ 100000)
    (hs : SlAt w (some ⟨a, off, none⟩) n 2 c) (hk1 : KeyC g (.agg #[c k 0, c k 1]) (.string (ks k))) (hk2 : KeyC g (.agg #[c i 0, c i 1]) (.string (ks i))) (bk bl bi : Nat)
    (q1 : w.cell? ⟨bk, 0, none⟩ = some (.func (.func g) #[] #[])) (q2 : w.cell? ⟨bl, 0, none⟩ = some (.slice (some ⟨a, off, none⟩) n cp)) (q3 : w.cell? ⟨bi, 0, none⟩ = some (.int .i64 i)) :
    Calls Tryz.prog 172 #[.agg #[c k 0, c k 1], .pointer (some ⟨bk, 0, none⟩), .pointer (some ⟨bl, 0, none⟩), .pointer (some ⟨bi, 0, none⟩)] w fun e w' => e = .returned (.bool (sameS (ks k) (ks i))) ∧ Below w.heap.size w w' := by
  have hi2 : (i : Int) < n := by omega
  obtain ⟨w0, hw0⟩ : ∃ w0 : World, w0 = w.alloc (.cells #[c k 0, c k 1] 100) := ⟨_, rfl⟩
  have hb0 : Below w.heap.size w w0 := by rw [hw0]; (repeat first | exact Below.refl _ _ | assumption | refine Below.alloc ?_ (by simp; try omega) _ | refine Below.drew ?_ | refine Below.drewN ?_ _ | refine Below.setCell ?_ (by simp; try omega) _ | refine Below.trans ?_ (Below.mono (by assumption) (by simp; try omega)))
  have hn0 : w0.heap[w.heap.size]? = some (.cells #[c k 0, c k 1] 100) := by rw [hw0]; exact heap_new w _
  have hlt : w.heap.size < w0.heap.size := (Array.getElem?_eq_some_iff.1 hn0).1
  obtain ⟨a', off', hao, hcs⟩ : ∃ a' off', some (⟨a, off, none⟩ : Addr) = some ⟨a', off', none⟩ ∧ ∀ i, i < n → ∀ j, j < 2 → w.cell? ⟨a', off' + i * 2 + j, none⟩ = some (c i j) := by
    rcases hs with h | h
    · omega
    · exact h
  cases hao
  have d0 := hcs i hi 0 (by omega); have d1 := hcs i hi 1 (by omega); simp only [Nat.add_zero] at d0
  clear hcs
  have l1 := (hb0.cell (p := ⟨bk, 0, none⟩) (cell_lt q1)).trans q1
  have l2 := (hb0.cell (p := ⟨bl, 0, none⟩) (cell_lt q2)).trans q2
  have l3 := (hb0.cell (p := ⟨bi, 0, none⟩) (cell_lt q3)).trans q3
  have e0 := cell_of (o := 0) hn0; have e1 := cell_of (o := 1) hn0; have f0 := (hb0.cell (cell_lt d0)).trans d0; have f1 := (hb0.cell (cell_lt d1)).trans d1; clear d0 d1
  have hai : 0 ≤ (i : Int) := by omega
  have HK1 := Lib.hid hk1; clear hk1
  have HK2 := Lib.hid hk2; clear hk2
  have HW := Lib.hid hw0; clear hw0
  clear hs hn0 q1 q2 q3
  go_enter Tryz.func172, Tryz.ntmps172
  go_wp2_with fail
  rw [← HW.out]
  have tok0 : True := trivial
  first
    | go_region_held3 (fun w' => w'.cell? ⟨bk, 0, none⟩ = some (.func (.func g) #[] #[]) ∧ w'.cell? ⟨bl, 0, none⟩ = some (.slice (some ⟨a, off, none⟩) n cp) ∧ w'.cell? ⟨bi, 0, none⟩ = some (.int .i64 i) ∧ w'.cell? ⟨w.heap.size, 0, none⟩ = some (c k 0) ∧ w'.cell? ⟨w.heap.size, 1, none⟩ = some (c k 1) ∧ w'.cell? ⟨a, off + i * 2, none⟩ = some (c i 0) ∧ w'.cell? ⟨a, off + i * 2 + 1, none⟩ = some (c i 1))
        (first | exact ⟨l1, l2, l3, e0, e1, f0, f1⟩ | (go_split_ands; (repeat' apply And.intro) <;> first | assumption | exact (hbB.cell (cell_lt (by assumption))).trans (by assumption) | exact (hbA.cell (cell_lt (by assumption))).trans (by assumption)))
        (first
          | (have _t := tok0; refine (HK1.out _).mono ?_; rintro e w1 ⟨rfl, hbA⟩; clear tok0; have tok1 : True := trivial)
          | (have _t := tok1; refine (HK2.out _).mono ?_; rintro e w2 ⟨rfl, hbB⟩))
    | fail
  all_goals
    have hb1 : Below w.heap.size w w1 := hb0.trans (((Below.refl w0.heap.size w0).drew.trans hbA).mono hb0.size)
    have hb2 : Below w.heap.size w w2 := hb1.trans (hbB.mono hb1.size)
    go_wp2_with fail
    go_ret
    exact ⟨rfl, hb2⟩
theorem slAt_take_dest {w : World} {ao : Option Addr} {n i : Nat} {c : Nat → Nat → Value} (h : SlAt w ao n 2 c) (hi : i < n) : SlAt w ao i 2 c := by
  rcases h with h | ⟨a, off, h1, h2⟩
  · omega
  · exact .inr ⟨a, off, h1, fun k hk j hj => h2 k (by omega) j hj⟩
set_option maxHeartbeats 1000000 in
theorem twice_dest (a off n cp : Nat) (c : Nat → Nat → Value) (ks : Nat → ByteArray) (g : Nat) (eg : ∀ args w, (callFunc g args).run Tryz.prog w = .ok (.enter g args) w) (w : World) (i : Nat) (hi : i < n) (hn : n ≤ 100000) (hcp : n ≤ cp)
    (hs : SlAt w (some ⟨a, off, none⟩) n 2 c) (hk : ∀ k, k < n → KeyC g (.agg #[c k 0, c k 1]) (.string (ks k))) :
    Calls Tryz.prog 114 #[.slice (some ⟨a, off, none⟩) n cp, .int .i64 i, .func (.func g) #[] #[]] w fun e w' => e = .returned (.bool (anyx (fun k => sameS (ks k) (ks i)) i)) ∧ Below w.heap.size w w' := by
  obtain ⟨w0, hw0⟩ : ∃ w0 : World, w0 = ((w.alloc (.cells #[.slice (some ⟨a, off, none⟩) n cp] 25)).alloc (.cells #[.int .i64 i] 3)).alloc (.cells #[.func (.func g) #[] #[]] 101) := ⟨_, rfl⟩
  have hb0 : Below w.heap.size w w0 := by rw [hw0]; (repeat first | exact Below.refl _ _ | assumption | refine Below.alloc ?_ (by simp; try omega) _ | refine Below.drew ?_ | refine Below.drewN ?_ _ | refine Below.setCell ?_ (by simp; try omega) _ | refine Below.trans ?_ (Below.mono (by assumption) (by simp; try omega)))
  have g1 : w0.heap[w.heap.size]? = some (.cells #[.slice (some ⟨a, off, none⟩) n cp] 25) := by rw [hw0]; (simp only [heap_drew, heap_allocs, World.size_alloc, if_true] <;> repeat (first | rw [if_pos (by omega)] | rw [if_neg (by omega)]))
  have g2 : w0.heap[w.heap.size + 1]? = some (.cells #[.int .i64 i] 3) := by rw [hw0]; (simp only [heap_drew, heap_allocs, World.size_alloc, if_true] <;> repeat (first | rw [if_pos (by omega)] | rw [if_neg (by omega)]))
  have g3 : w0.heap[w.heap.size + 2]? = some (.cells #[.func (.func g) #[] #[]] 101) := by rw [hw0]; (simp only [heap_drew, heap_allocs, World.size_alloc, if_true] <;> repeat (first | rw [if_pos (by omega)] | rw [if_neg (by omega)]))
  have q1 := cell_of (o := 0) g1
  have q2 := cell_of (o := 0) g2
  have q3 := cell_of (o := 0) g3
  have hs0 := hs.below hb0
  have hcf := containsFunc_dest (some ⟨a, off, none⟩) i cp (by omega) c (fun k => sameS (ks k) (ks i)) 172 #[.pointer (some ⟨w.heap.size + 2, 0, none⟩), .pointer (some ⟨w.heap.size, 0, none⟩), .pointer (some ⟨w.heap.size + 1, 0, none⟩)]
    (enters_of Tryz.func172 (by kernel_rfl) rfl) w0 (slAt_take_dest hs0 hi) (fun k hk2 W hW => by
      refine twice1_dest a off n cp c ks g eg W k i hi hn (hs0.below hW) (hk k (by omega)) (hk i hi) (w.heap.size + 2) w.heap.size (w.heap.size + 1) ?_ ?_ ?_
      · exact (hW.cell (p := ⟨w.heap.size + 2, 0, none⟩) (cell_lt q3)).trans q3
      · exact (hW.cell (p := ⟨w.heap.size, 0, none⟩) (cell_lt q1)).trans q1
      · exact (hW.cell (p := ⟨w.heap.size + 1, 0, none⟩) (cell_lt q2)).trans q2)
  have HCF := Lib.hid hcf; clear hcf
  have HW := Lib.hid hw0; clear hw0
  have hi2 : (i : Int) ≤ n := by omega
  have hi3 : (i : Int) ≤ cp := by omega
  have hn3 : (n : Int) ≤ cp := by omega
  have hi0 : (0 : Int) ≤ i := by omega
  clear hs hs0 hk g1 g2 g3
  go_enter Tryz.func114, Tryz.ntmps114
  go_wp2_with fail
  rw [← HW.out]
  refine HCF.out.mono ?_
  rintro e w1 ⟨rfl, hb1⟩
  have hb2 := hb0.trans (hb1.mono hb0.size)
  go_wp2_with fail
  go_ret
  exact ⟨rfl, hb2⟩
set_option maxHeartbeats 2000000 in
set_option maxRecDepth 20000 in
theorem twice1_work (a off n cp : Nat) (c : Nat → Nat → Value) (ks : Nat → ByteArray) (g : Nat) (eg : ∀ args w, (callFunc g args).run Tryz.prog w = .ok (.enter g args) w) (w : World) (k i : Nat) (hi : i < n) (hn : n ≤ 100000)
    (hs : SlAt w (some ⟨a, off, none⟩) n 3 c) (hk1 : KeyC g (.agg #[c k 0, c k 1, c k 2]) (.string (ks k))) (hk2 : KeyC g (.agg #[c i 0, c i 1, c i 2]) (.string (ks i))) (bk bl bi : Nat)
    (q1 : w.cell? ⟨bk, 0, none⟩ = some (.func (.func g) #[] #[])) (q2 : w.cell? ⟨bl, 0, none⟩ = some (.slice (some ⟨a, off, none⟩) n cp)) (q3 : w.cell? ⟨bi, 0, none⟩ = some (.int .i64 i)) :
    Calls Tryz.prog 174 #[.agg #[c k 0, c k 1, c k 2], .pointer (some ⟨bk, 0, none⟩), .pointer (some ⟨bl, 0, none⟩), .pointer (some ⟨bi, 0, none⟩)] w fun e w' => e = .returned (.bool (sameS (ks k) (ks i))) ∧ Below w.heap.size w w' := by
  have hi2 : (i : Int) < n := by omega
  obtain ⟨w0, hw0⟩ : ∃ w0 : World, w0 = w.alloc (.cells #[c k 0, c k 1, c k 2] 62) := ⟨_, rfl⟩
  have hb0 : Below w.heap.size w w0 := by rw [hw0]; (repeat first | exact Below.refl _ _ | assumption | refine Below.alloc ?_ (by simp; try omega) _ | refine Below.drew ?_ | refine Below.drewN ?_ _ | refine Below.setCell ?_ (by simp; try omega) _ | refine Below.trans ?_ (Below.mono (by assumption) (by simp; try omega)))
  have hn0 : w0.heap[w.heap.size]? = some (.cells #[c k 0, c k 1, c k 2] 62) := by rw [hw0]; exact heap_new w _
  have hlt : w.heap.size < w0.heap.size := (Array.getElem?_eq_some_iff.1 hn0).1
  obtain ⟨a', off', hao, hcs⟩ : ∃ a' off', some (⟨a, off, none⟩ : Addr) = some ⟨a', off', none⟩ ∧ ∀ i, i < n → ∀ j, j < 3 → w.cell? ⟨a', off' + i * 3 + j, none⟩ = some (c i j) := by
    rcases hs with h | h
    · omega
    · exact h
  cases hao
  have d0 := hcs i hi 0 (by omega); have d1 := hcs i hi 1 (by omega); have d2 := hcs i hi 2 (by omega); simp only [Nat.add_zero] at d0
  clear hcs
  have l1 := (hb0.cell (p := ⟨bk, 0, none⟩) (cell_lt q1)).trans q1
  have l2 := (hb0.cell (p := ⟨bl, 0, none⟩) (cell_lt q2)).trans q2
  have l3 := (hb0.cell (p := ⟨bi, 0, none⟩) (cell_lt q3)).trans q3
  have e0 := cell_of (o := 0) hn0; have e1 := cell_of (o := 1) hn0; have e2 := cell_of (o := 2) hn0; have f0 := (hb0.cell (cell_lt d0)).trans d0; have f1 := (hb0.cell (cell_lt d1)).trans d1; have f2 := (hb0.cell (cell_lt d2)).trans d2; clear d0 d1 d2
  have hai : 0 ≤ (i : Int) := by omega
  have HK1 := Lib.hid hk1; clear hk1
  have HK2 := Lib.hid hk2; clear hk2
  have HW := Lib.hid hw0; clear hw0
  clear hs hn0 q1 q2 q3
  go_enter Tryz.func174, Tryz.ntmps174
  go_wp2_with fail
  rw [← HW.out]
  have tok0 : True := trivial
  first
    | go_region_held3 (fun w' => w'.cell? ⟨bk, 0, none⟩ = some (.func (.func g) #[] #[]) ∧ w'.cell? ⟨bl, 0, none⟩ = some (.slice (some ⟨a, off, none⟩) n cp) ∧ w'.cell? ⟨bi, 0, none⟩ = some (.int .i64 i) ∧ w'.cell? ⟨w.heap.size, 0, none⟩ = some (c k 0) ∧ w'.cell? ⟨w.heap.size, 1, none⟩ = some (c k 1) ∧ w'.cell? ⟨w.heap.size, 2, none⟩ = some (c k 2) ∧ w'.cell? ⟨a, off + i * 3, none⟩ = some (c i 0) ∧ w'.cell? ⟨a, off + i * 3 + 1, none⟩ = some (c i 1) ∧ w'.cell? ⟨a, off + i * 3 + 2, none⟩ = some (c i 2))
        (first | exact ⟨l1, l2, l3, e0, e1, e2, f0, f1, f2⟩ | (go_split_ands; (repeat' apply And.intro) <;> first | assumption | exact (hbB.cell (cell_lt (by assumption))).trans (by assumption) | exact (hbA.cell (cell_lt (by assumption))).trans (by assumption)))
        (first
          | (have _t := tok0; refine (HK1.out _).mono ?_; rintro e w1 ⟨rfl, hbA⟩; clear tok0; have tok1 : True := trivial)
          | (have _t := tok1; refine (HK2.out _).mono ?_; rintro e w2 ⟨rfl, hbB⟩))
    | fail
  all_goals
    have hb1 : Below w.heap.size w w1 := hb0.trans (((Below.refl w0.heap.size w0).drew.trans hbA).mono hb0.size)
    have hb2 : Below w.heap.size w w2 := hb1.trans (hbB.mono hb1.size)
    go_wp2_with fail
    go_ret
    exact ⟨rfl, hb2⟩
theorem slAt_take_work {w : World} {ao : Option Addr} {n i : Nat} {c : Nat → Nat → Value} (h : SlAt w ao n 3 c) (hi : i < n) : SlAt w ao i 3 c := by
  rcases h with h | ⟨a, off, h1, h2⟩
  · omega
  · exact .inr ⟨a, off, h1, fun k hk j hj => h2 k (by omega) j hj⟩
set_option maxHeartbeats 1000000 in
theorem twice_work (a off n cp : Nat) (c : Nat → Nat → Value) (ks : Nat → ByteArray) (g : Nat) (eg : ∀ args w, (callFunc g args).run Tryz.prog w = .ok (.enter g args) w) (w : World) (i : Nat) (hi : i < n) (hn : n ≤ 100000) (hcp : n ≤ cp)
    (hs : SlAt w (some ⟨a, off, none⟩) n 3 c) (hk : ∀ k, k < n → KeyC g (.agg #[c k 0, c k 1, c k 2]) (.string (ks k))) :
    Calls Tryz.prog 116 #[.slice (some ⟨a, off, none⟩) n cp, .int .i64 i, .func (.func g) #[] #[]] w fun e w' => e = .returned (.bool (anyx (fun k => sameS (ks k) (ks i)) i)) ∧ Below w.heap.size w w' := by
  obtain ⟨w0, hw0⟩ : ∃ w0 : World, w0 = ((w.alloc (.cells #[.slice (some ⟨a, off, none⟩) n cp] 26)).alloc (.cells #[.int .i64 i] 3)).alloc (.cells #[.func (.func g) #[] #[]] 206) := ⟨_, rfl⟩
  have hb0 : Below w.heap.size w w0 := by rw [hw0]; (repeat first | exact Below.refl _ _ | assumption | refine Below.alloc ?_ (by simp; try omega) _ | refine Below.drew ?_ | refine Below.drewN ?_ _ | refine Below.setCell ?_ (by simp; try omega) _ | refine Below.trans ?_ (Below.mono (by assumption) (by simp; try omega)))
  have g1 : w0.heap[w.heap.size]? = some (.cells #[.slice (some ⟨a, off, none⟩) n cp] 26) := by rw [hw0]; (simp only [heap_drew, heap_allocs, World.size_alloc, if_true] <;> repeat (first | rw [if_pos (by omega)] | rw [if_neg (by omega)]))
  have g2 : w0.heap[w.heap.size + 1]? = some (.cells #[.int .i64 i] 3) := by rw [hw0]; (simp only [heap_drew, heap_allocs, World.size_alloc, if_true] <;> repeat (first | rw [if_pos (by omega)] | rw [if_neg (by omega)]))
  have g3 : w0.heap[w.heap.size + 2]? = some (.cells #[.func (.func g) #[] #[]] 206) := by rw [hw0]; (simp only [heap_drew, heap_allocs, World.size_alloc, if_true] <;> repeat (first | rw [if_pos (by omega)] | rw [if_neg (by omega)]))
  have q1 := cell_of (o := 0) g1
  have q2 := cell_of (o := 0) g2
  have q3 := cell_of (o := 0) g3
  have hs0 := hs.below hb0
  have hcf := containsFunc_work (some ⟨a, off, none⟩) i cp (by omega) c (fun k => sameS (ks k) (ks i)) 174 #[.pointer (some ⟨w.heap.size + 2, 0, none⟩), .pointer (some ⟨w.heap.size, 0, none⟩), .pointer (some ⟨w.heap.size + 1, 0, none⟩)]
    (enters_of Tryz.func174 (by kernel_rfl) rfl) w0 (slAt_take_work hs0 hi) (fun k hk2 W hW => by
      refine twice1_work a off n cp c ks g eg W k i hi hn (hs0.below hW) (hk k (by omega)) (hk i hi) (w.heap.size + 2) w.heap.size (w.heap.size + 1) ?_ ?_ ?_
      · exact (hW.cell (p := ⟨w.heap.size + 2, 0, none⟩) (cell_lt q3)).trans q3
      · exact (hW.cell (p := ⟨w.heap.size, 0, none⟩) (cell_lt q1)).trans q1
      · exact (hW.cell (p := ⟨w.heap.size + 1, 0, none⟩) (cell_lt q2)).trans q2)
  have HCF := Lib.hid hcf; clear hcf
  have HW := Lib.hid hw0; clear hw0
  have hi2 : (i : Int) ≤ n := by omega
  have hi3 : (i : Int) ≤ cp := by omega
  have hn3 : (n : Int) ≤ cp := by omega
  have hi0 : (0 : Int) ≤ i := by omega
  clear hs hs0 hk g1 g2 g3
  go_enter Tryz.func116, Tryz.ntmps116
  go_wp2_with fail
  rw [← HW.out]
  refine HCF.out.mono ?_
  rintro e w1 ⟨rfl, hb1⟩
  have hb2 := hb0.trans (hb1.mono hb0.size)
  go_wp2_with fail
  go_ret
  exact ⟨rfl, hb2⟩
set_option maxHeartbeats 2000000 in
set_option maxRecDepth 20000 in
theorem twice1_grant (a off n cp : Nat) (c : Nat → Nat → Value) (ks : Nat → ByteArray) (g : Nat) (eg : ∀ args w, (callFunc g args).run Tryz.prog w = .ok (.enter g args) w) (w : World) (k i : Nat) (hi : i < n) (hn : n ≤ 100000)
    (hs : SlAt w (some ⟨a, off, none⟩) n 5 c) (hk1 : KeyC g (.agg #[c k 0, c k 1, c k 2, c k 3, c k 4]) (.string (ks k))) (hk2 : KeyC g (.agg #[c i 0, c i 1, c i 2, c i 3, c i 4]) (.string (ks i))) (bk bl bi : Nat)
    (q1 : w.cell? ⟨bk, 0, none⟩ = some (.func (.func g) #[] #[])) (q2 : w.cell? ⟨bl, 0, none⟩ = some (.slice (some ⟨a, off, none⟩) n cp)) (q3 : w.cell? ⟨bi, 0, none⟩ = some (.int .i64 i)) :
    Calls Tryz.prog 181 #[.agg #[c k 0, c k 1, c k 2, c k 3, c k 4], .pointer (some ⟨bk, 0, none⟩), .pointer (some ⟨bl, 0, none⟩), .pointer (some ⟨bi, 0, none⟩)] w fun e w' => e = .returned (.bool (sameS (ks k) (ks i))) ∧ Below w.heap.size w w' := by
  have hi2 : (i : Int) < n := by omega
  obtain ⟨w0, hw0⟩ : ∃ w0 : World, w0 = w.alloc (.cells #[c k 0, c k 1, c k 2, c k 3, c k 4] 53) := ⟨_, rfl⟩
  have hb0 : Below w.heap.size w w0 := by rw [hw0]; (repeat first | exact Below.refl _ _ | assumption | refine Below.alloc ?_ (by simp; try omega) _ | refine Below.drew ?_ | refine Below.drewN ?_ _ | refine Below.setCell ?_ (by simp; try omega) _ | refine Below.trans ?_ (Below.mono (by assumption) (by simp; try omega)))
  have hn0 : w0.heap[w.heap.size]? = some (.cells #[c k 0, c k 1, c k 2, c k 3, c k 4] 53) := by rw [hw0]; exact heap_new w _
  have hlt : w.heap.size < w0.heap.size := (Array.getElem?_eq_some_iff.1 hn0).1
  obtain ⟨a', off', hao, hcs⟩ : ∃ a' off', some (⟨a, off, none⟩ : Addr) = some ⟨a', off', none⟩ ∧ ∀ i, i < n → ∀ j, j < 5 → w.cell? ⟨a', off' + i * 5 + j, none⟩ = some (c i j) := by
    rcases hs with h | h
    · omega
    · exact h
  cases hao
  have d0 := hcs i hi 0 (by omega); have d1 := hcs i hi 1 (by omega); have d2 := hcs i hi 2 (by omega); have d3 := hcs i hi 3 (by omega); have d4 := hcs i hi 4 (by omega); simp only [Nat.add_zero] at d0
  clear hcs
  have l1 := (hb0.cell (p := ⟨bk, 0, none⟩) (cell_lt q1)).trans q1
  have l2 := (hb0.cell (p := ⟨bl, 0, none⟩) (cell_lt q2)).trans q2
  have l3 := (hb0.cell (p := ⟨bi, 0, none⟩) (cell_lt q3)).trans q3
  have e0 := cell_of (o := 0) hn0; have e1 := cell_of (o := 1) hn0; have e2 := cell_of (o := 2) hn0; have e3 := cell_of (o := 3) hn0; have e4 := cell_of (o := 4) hn0; have f0 := (hb0.cell (cell_lt d0)).trans d0; have f1 := (hb0.cell (cell_lt d1)).trans d1; have f2 := (hb0.cell (cell_lt d2)).trans d2; have f3 := (hb0.cell (cell_lt d3)).trans d3; have f4 := (hb0.cell (cell_lt d4)).trans d4; clear d0 d1 d2 d3 d4
  have hai : 0 ≤ (i : Int) := by omega
  have HK1 := Lib.hid hk1; clear hk1
  have HK2 := Lib.hid hk2; clear hk2
  have HW := Lib.hid hw0; clear hw0
  clear hs hn0 q1 q2 q3
  go_enter Tryz.func181, Tryz.ntmps181
  go_wp2_with fail
  rw [← HW.out]
  have tok0 : True := trivial
  first
    | go_region_held3 (fun w' => w'.cell? ⟨bk, 0, none⟩ = some (.func (.func g) #[] #[]) ∧ w'.cell? ⟨bl, 0, none⟩ = some (.slice (some ⟨a, off, none⟩) n cp) ∧ w'.cell? ⟨bi, 0, none⟩ = some (.int .i64 i) ∧ w'.cell? ⟨w.heap.size, 0, none⟩ = some (c k 0) ∧ w'.cell? ⟨w.heap.size, 1, none⟩ = some (c k 1) ∧ w'.cell? ⟨w.heap.size, 2, none⟩ = some (c k 2) ∧ w'.cell? ⟨w.heap.size, 3, none⟩ = some (c k 3) ∧ w'.cell? ⟨w.heap.size, 4, none⟩ = some (c k 4) ∧ w'.cell? ⟨a, off + i * 5, none⟩ = some (c i 0) ∧ w'.cell? ⟨a, off + i * 5 + 1, none⟩ = some (c i 1) ∧ w'.cell? ⟨a, off + i * 5 + 2, none⟩ = some (c i 2) ∧ w'.cell? ⟨a, off + i * 5 + 3, none⟩ = some (c i 3) ∧ w'.cell? ⟨a, off + i * 5 + 4, none⟩ = some (c i 4))
        (first | exact ⟨l1, l2, l3, e0, e1, e2, e3, e4, f0, f1, f2, f3, f4⟩ | (go_split_ands; (repeat' apply And.intro) <;> first | assumption | exact (hbB.cell (cell_lt (by assumption))).trans (by assumption) | exact (hbA.cell (cell_lt (by assumption))).trans (by assumption)))
        (first
          | (have _t := tok0; refine (HK1.out _).mono ?_; rintro e w1 ⟨rfl, hbA⟩; clear tok0; have tok1 : True := trivial)
          | (have _t := tok1; refine (HK2.out _).mono ?_; rintro e w2 ⟨rfl, hbB⟩))
    | fail
  all_goals
    have hb1 : Below w.heap.size w w1 := hb0.trans (((Below.refl w0.heap.size w0).drew.trans hbA).mono hb0.size)
    have hb2 : Below w.heap.size w w2 := hb1.trans (hbB.mono hb1.size)
    go_wp2_with fail
    go_ret
    exact ⟨rfl, hb2⟩
theorem slAt_take_grant {w : World} {ao : Option Addr} {n i : Nat} {c : Nat → Nat → Value} (h : SlAt w ao n 5 c) (hi : i < n) : SlAt w ao i 5 c := by
  rcases h with h | ⟨a, off, h1, h2⟩
  · omega
  · exact .inr ⟨a, off, h1, fun k hk j hj => h2 k (by omega) j hj⟩
set_option maxHeartbeats 1000000 in
theorem twice_grant (a off n cp : Nat) (c : Nat → Nat → Value) (ks : Nat → ByteArray) (g : Nat) (eg : ∀ args w, (callFunc g args).run Tryz.prog w = .ok (.enter g args) w) (w : World) (i : Nat) (hi : i < n) (hn : n ≤ 100000) (hcp : n ≤ cp)
    (hs : SlAt w (some ⟨a, off, none⟩) n 5 c) (hk : ∀ k, k < n → KeyC g (.agg #[c k 0, c k 1, c k 2, c k 3, c k 4]) (.string (ks k))) :
    Calls Tryz.prog 127 #[.slice (some ⟨a, off, none⟩) n cp, .int .i64 i, .func (.func g) #[] #[]] w fun e w' => e = .returned (.bool (anyx (fun k => sameS (ks k) (ks i)) i)) ∧ Below w.heap.size w w' := by
  obtain ⟨w0, hw0⟩ : ∃ w0 : World, w0 = ((w.alloc (.cells #[.slice (some ⟨a, off, none⟩) n cp] 28)).alloc (.cells #[.int .i64 i] 3)).alloc (.cells #[.func (.func g) #[] #[]] 215) := ⟨_, rfl⟩
  have hb0 : Below w.heap.size w w0 := by rw [hw0]; (repeat first | exact Below.refl _ _ | assumption | refine Below.alloc ?_ (by simp; try omega) _ | refine Below.drew ?_ | refine Below.drewN ?_ _ | refine Below.setCell ?_ (by simp; try omega) _ | refine Below.trans ?_ (Below.mono (by assumption) (by simp; try omega)))
  have g1 : w0.heap[w.heap.size]? = some (.cells #[.slice (some ⟨a, off, none⟩) n cp] 28) := by rw [hw0]; (simp only [heap_drew, heap_allocs, World.size_alloc, if_true] <;> repeat (first | rw [if_pos (by omega)] | rw [if_neg (by omega)]))
  have g2 : w0.heap[w.heap.size + 1]? = some (.cells #[.int .i64 i] 3) := by rw [hw0]; (simp only [heap_drew, heap_allocs, World.size_alloc, if_true] <;> repeat (first | rw [if_pos (by omega)] | rw [if_neg (by omega)]))
  have g3 : w0.heap[w.heap.size + 2]? = some (.cells #[.func (.func g) #[] #[]] 215) := by rw [hw0]; (simp only [heap_drew, heap_allocs, World.size_alloc, if_true] <;> repeat (first | rw [if_pos (by omega)] | rw [if_neg (by omega)]))
  have q1 := cell_of (o := 0) g1
  have q2 := cell_of (o := 0) g2
  have q3 := cell_of (o := 0) g3
  have hs0 := hs.below hb0
  have hcf := containsFunc_grant (some ⟨a, off, none⟩) i cp (by omega) c (fun k => sameS (ks k) (ks i)) 181 #[.pointer (some ⟨w.heap.size + 2, 0, none⟩), .pointer (some ⟨w.heap.size, 0, none⟩), .pointer (some ⟨w.heap.size + 1, 0, none⟩)]
    (enters_of Tryz.func181 (by kernel_rfl) rfl) w0 (slAt_take_grant hs0 hi) (fun k hk2 W hW => by
      refine twice1_grant a off n cp c ks g eg W k i hi hn (hs0.below hW) (hk k (by omega)) (hk i hi) (w.heap.size + 2) w.heap.size (w.heap.size + 1) ?_ ?_ ?_
      · exact (hW.cell (p := ⟨w.heap.size + 2, 0, none⟩) (cell_lt q3)).trans q3
      · exact (hW.cell (p := ⟨w.heap.size, 0, none⟩) (cell_lt q1)).trans q1
      · exact (hW.cell (p := ⟨w.heap.size + 1, 0, none⟩) (cell_lt q2)).trans q2)
  have HCF := Lib.hid hcf; clear hcf
  have HW := Lib.hid hw0; clear hw0
  have hi2 : (i : Int) ≤ n := by omega
  have hi3 : (i : Int) ≤ cp := by omega
  have hn3 : (n : Int) ≤ cp := by omega
  have hi0 : (0 : Int) ≤ i := by omega
  clear hs hs0 hk g1 g2 g3
  go_enter Tryz.func127, Tryz.ntmps127
  go_wp2_with fail
  rw [← HW.out]
  refine HCF.out.mono ?_
  rintro e w1 ⟨rfl, hb1⟩
  have hb2 := hb0.trans (hb1.mono hb0.size)
  go_wp2_with fail
  go_ret
  exact ⟨rfl, hb2⟩
end Go.Proofs.YteblahoijolegaaGreatDoor
end
section
set_option linter.all false
namespace Go.Proofs.YteblahoijolegaaGreatDoor
open Go.RowKit

/-- some cells hold these -/
def Cells (w : World) (l : List (Nat × Nat × Value)) : Prop := ∀ x ∈ l, w.cell? ⟨x.1, x.2.1, none⟩ = some x.2.2
theorem Cells.below {w w' : World} {l : List (Nat × Nat × Value)} (h : Cells w l) (hb : Below w.heap.size w w') : Cells w' l := fun x hx => (hb.cell (p := ⟨x.1, x.2.1, none⟩) (cell_lt (h x hx))).trans (h x hx)
theorem Cells.nil (w : World) : Cells w [] := fun _ h => by cases h
theorem Cells.cons {w : World} {b o : Nat} {v : Value} {l : List (Nat × Nat × Value)} (h : w.cell? ⟨b, o, none⟩ = some v) (hl : Cells w l) : Cells w ((b, o, v) :: l) := fun x hx => by
  rcases List.mem_cons.1 hx with rfl | hx
  · exact h
  · exact hl x hx
theorem Cells.head {w : World} {b o : Nat} {v : Value} {l : List (Nat × Nat × Value)} (h : Cells w ((b, o, v) :: l)) : w.cell? ⟨b, o, none⟩ = some v := h _ (List.mem_cons_self ..)
theorem Cells.tail {w : World} {x : Nat × Nat × Value} {l : List (Nat × Nat × Value)} (h : Cells w (x :: l)) : Cells w l := fun y hy => h y (List.mem_cons_of_mem _ hy)
def labB (n : Nat) (l : Int) : Bool := decide (0 ≤ l ∧ l < n)
theorem judge_label {w : World} {bj bp nl cp : Nat} {ao : Option Addr} (l : Int) (j0 : w.cell? ⟨bj, 0, none⟩ = some (.pointer (some ⟨bp, 0, none⟩))) (p0 : w.cell? ⟨bp, 0, none⟩ = some (.slice ao nl cp)) :
    Calls Tryz.prog 112 #[.pointer (some ⟨bj, 0, none⟩), .int .i64 l] w fun e w' => e = .returned (.bool (labB nl l)) ∧ w = w' := by
  go_enter Tryz.func112, Tryz.ntmps112
  by_cases h : 0 ≤ l
  · go_wp2
    go_ret
    exact ⟨by simp [labB, h], rfl⟩
  · go_wp2
    go_ret
    have : labB nl l = false := decide_eq_false (by omega)
    rw [this]
    exact ⟨rfl, rfl⟩
theorem judge_work {w : World} {bj bp nl cp : Nat} {ao : Option Addr} (l : Int) (j0 : w.cell? ⟨bj, 0, none⟩ = some (.pointer (some ⟨bp, 0, none⟩))) (p0 : w.cell? ⟨bp, 4, none⟩ = some (.slice ao nl cp)) :
    Calls Tryz.prog 122 #[.pointer (some ⟨bj, 0, none⟩), .int .i64 l] w fun e w' => e = .returned (.bool (labB nl l)) ∧ w = w' := by
  go_enter Tryz.func122, Tryz.ntmps122
  by_cases h : 0 ≤ l
  · go_wp2
    go_ret
    exact ⟨by simp [labB, h], rfl⟩
  · go_wp2
    go_ret
    have : labB nl l = false := decide_eq_false (by omega)
    rw [this]
    exact ⟨rfl, rfl⟩
theorem key_source (s : ByteArray) (x y : Value) : KeyC 111 (.agg #[.string s, x, y]) (.string s) := by
  intro W
  have hb : Below W.heap.size W (W.alloc (.cells #[.string s, x, y] 96)) := (Below.refl _ W).alloc (Nat.le_refl _) _
  go_enter Tryz.func111, Tryz.ntmps111
  go_wp2
  go_ret
  exact ⟨rfl, hb⟩
theorem key_dest (s : ByteArray) (x : Value) : KeyC 115 (.agg #[.string s, x]) (.string s) := by
  intro W
  have hb : Below W.heap.size W (W.alloc (.cells #[.string s, x] 100)) := (Below.refl _ W).alloc (Nat.le_refl _) _
  go_enter Tryz.func115, Tryz.ntmps115
  go_wp2
  go_ret
  exact ⟨rfl, hb⟩
theorem key_work (s : ByteArray) (x y : Value) : KeyC 117 (.agg #[.string s, x, y]) (.string s) := by
  intro W
  have hb : Below W.heap.size W (W.alloc (.cells #[.string s, x, y] 62)) := (Below.refl _ W).alloc (Nat.le_refl _) _
  go_enter Tryz.func117, Tryz.ntmps117
  go_wp2
  go_ret
  exact ⟨rfl, hb⟩
theorem key_grant (s : ByteArray) (x y z v : Value) : KeyC 128 (.agg #[.string s, x, y, z, v]) (.string s) := by
  intro W
  have hb : Below W.heap.size W (W.alloc (.cells #[.string s, x, y, z, v] 53)) := (Below.refl _ W).alloc (Nat.le_refl _) _
  go_enter Tryz.func128, Tryz.ntmps128
  go_wp2
  go_ret
  exact ⟨rfl, hb⟩

end Go.Proofs.YteblahoijolegaaGreatDoor
end
