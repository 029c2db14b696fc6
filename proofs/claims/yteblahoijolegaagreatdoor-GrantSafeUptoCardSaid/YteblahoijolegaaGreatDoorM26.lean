import Derived.Test.YteblahoijolegaaGreatDoorM20
import Derived.Test.YteblahoijolegaaGreatDoorM24
import Derived.Test.YteblahoijolegaaGreatDoorM25
import Derived.BigQuiet
import Derived.BigRegion
import Derived.ChangeAlike
import Derived.Deep.DeepCutAuto
import Derived.Deep.Light
import Derived.Deep.LoopGhost
import Derived.Deep.MidRow
import Derived.Deep.QuietTactic
import Derived.Deep.RegionHeld3
import Derived.Deep.WholeRow
import Derived.Defers
import Derived.Great.Walk
import Derived.Laws.BitsAllLaws
import Derived.Laws.CopyOwn
import Derived.Laws.EntriesVeiled
import Derived.Laws.LoneSync
import Derived.Laws.Pointers
import Derived.Laws.StructEq
import Derived.Lib.Hide
import Derived.Lib.ItoaLen
import Derived.Lib.LazyBuf
import Derived.Lib.SliceRun
import Derived.LoopIn
import Derived.LoopNIn
import Derived.Maps.AppendAt
import Derived.Maps.Own
import Derived.OwnWalkIn
import Derived.RangeFuncBox
import Derived.RangeFuncCalls
import Derived.RangeFuncKeeps
import Derived.RangeFuncLeaves
import Derived.RangeFuncSeq
import Derived.RegionCalls
import Derived.RegionIn
import Derived.RegionTactic
import Derived.Shelf.Abstract
import Derived.Stop.RegionWithIn
import Derived.StringKeys
import Derived.TacticsInMore
import Derived.Test.YteblahoijolegaaGreatDoorShelf
import Derived.WalkKit
import Derived.WalkLawsBesides
import Derived.WalkSpells
import Derived.WideLaws
import Derived.Test.YteblahoijolegaaGreatDoorM23
section
set_option linter.all false
namespace Go.Proofs.YteblahoijolegaaGreatDoor
open Go.RowKit

theorem latAt_snap {w w' : World} {l b bu bd n k : Nat} {up down : List Nat} {hi : Int} {c : Array Value} {fz : Nat × Nat} (h : LatAt w l b bu bd n up down hi) (hk : w.heap[k]? = some (.cells c 85 fz)) (hw : Kept (fun x => x ≠ k) w w') : LatAt w' l b bu bd n up down hi := by
  have ne : ∀ (x : Nat) (c' : Array Value) (t : TypeId) (f' : Nat × Nat), w.heap[x]? = some (.cells c' t f') → t ≠ 85 → x ≠ k := by
    rintro x c' t f' h1 h2 rfl
    rw [h1] at hk; cases hk; exact h2 rfl
  obtain ⟨nma, cpn, jf, mf, lo, h1, h2⟩ := h.blk
  refine ⟨h.ord.kept hw (ne _ _ _ _ h.ord.blk (by decide)) (ne _ _ _ _ h.ord.up (by decide)) (ne _ _ _ _ h.ord.down (by decide)), nma, cpn, jf, mf, lo, ?_, h2⟩
  exact (hw.block l (Array.getElem?_eq_some_iff.1 h1).1 (ne _ _ _ _ h1 (by decide))).trans h1
/-- what Of says -/
def OfPost (P : Pol) (w : World) (e : Ending) (w' : World) : Prop :=
  ((P.code ≠ 0 ∧ e = .returned (.tuple #[.pointer none, .int .i64 P.code])) ∨
    (P.code = 0 ∧ ∃ s q l b bu bd down hi, e = .returned (.tuple #[.pointer (some ⟨s, 0, none⟩), .int .i64 0]) ∧ SnapAt w' s q P l b bu bd P.up down hi ∧ Tab P.nl P.up down ∧ q.From w.heap.size ∧ w.heap.size ≤ s)) ∧ Below w.heap.size w w'
theorem of4 {w : World} {bv bs n cp : Nat} {ao : Option Addr} {f : Nat → ByteArray × Int × Int} (hv : w.cell? ⟨bv, 0, none⟩ = some (.pointer (some ⟨bs, 0, none⟩))) (hp : w.cell? ⟨bs, 4, none⟩ = some (.slice ao n cp)) (hs : SlAt w ao n 3 (siiC f)) (hn : n ≤ 100000) (k : Nat) (hk : k < n) :
    Calls Tryz.prog 31 #[.int .i64 k, .pointer (some ⟨bv, 0, none⟩)] w fun e w' => e = .returned (.string (f k).1) ∧ w = w' := by
  obtain ⟨a, off, rfl, hcs⟩ := hs.resolve_left (by omega)
  have d0 := hcs k hk 0 (by omega)
  simp only [Nat.add_zero, siiC, if_true] at d0
  have hk2 : (k : Int) < n := by omega
  have hk0 : (0 : Int) ≤ k := by omega
  clear hcs hs
  go_enter Tryz.func31, Tryz.ntmps31
  go_wp2
  go_ret
  exact ⟨rfl, rfl⟩
theorem of5 {w : World} {bv bs n cp : Nat} {ao : Option Addr} {f : Nat → ByteArray} (hv : w.cell? ⟨bv, 0, none⟩ = some (.pointer (some ⟨bs, 0, none⟩))) (hp : w.cell? ⟨bs, 0, none⟩ = some (.slice ao n cp)) (hs : SlAt w ao n 1 (strC f)) (hn : n ≤ 100000) (k : Nat) (hk : k < n) :
    Calls Tryz.prog 32 #[.int .i64 k, .pointer (some ⟨bv, 0, none⟩)] w fun e w' => e = .returned (.string (f k)) ∧ w = w' := by
  obtain ⟨a, off, rfl, hcs⟩ := hs.resolve_left (by omega)
  have d0 := hcs k hk 0 (by omega)
  simp only [Nat.mul_one, Nat.add_zero, strC] at d0
  have hk2 : (k : Int) < n := by omega
  have hk0 : (0 : Int) ≤ k := by omega
  clear hcs hs
  go_enter Tryz.func32, Tryz.ntmps32
  go_wp2
  go_ret
  exact ⟨rfl, rfl⟩
end Go.Proofs.YteblahoijolegaaGreatDoor
end
section
set_option linter.all false
namespace Go.Proofs.YteblahoijolegaaGreatDoor
open Go.RowKit

def numRow (n : Nat) : List Value := (List.range n).map fun k : Nat => Value.int .i64 k
theorem numRow_flat (n : Nat) : numRow n = flat (fun k _ => .int .i64 k) n 1 := by
  unfold numRow flat
  rw [Nat.mul_one]
  refine List.map_congr_left fun q _ => ?_
  rw [Nat.div_one]
set_option maxHeartbeats 1000000 in
theorem snap_numbers (n : Nat) (hn : n ≤ 1000) (w : World) : Calls Tryz.prog 29 #[.int .i64 n] w fun e w' => (∃ ao cp, e = .returned (.slice ao n cp) ∧ SlAt w' ao n 1 (fun k _ => .int .i64 k)) ∧ Below w.heap.size w w' := by
  obtain ⟨i0, hi, hz0, hz1, hz2⟩ := info_parts Tryz.infoInt
  go_enter Tryz.func29, Tryz.ntmps29
  go_wp2_with fail
  go_loopg [2, 5] n (fun r s2 s5 wr => ∃ i : Nat, i ≤ n ∧ r = n - i ∧ s5 = .int .i64 i ∧ wr.ownsRow w.heap.size 3 1 s2 i (numRow i) ∧ Below w.heap.size w wr)
  case atStart => exact ⟨0, by omega, rfl, rfl, World.ownsRow_nil _ _ _ _, Below.refl _ _⟩
  case round =>
    obtain ⟨i, hi', rfl, rfl, hown, hb⟩ := hrel
    by_cases hlt : i < n
    · obtain ⟨r, hrr⟩ : ∃ r, n - i = r + 1 := ⟨n - i - 1, by omega⟩
      have HRR := Lib.hid hrr; clear hrr
      have hlt2 : (i : Int) < n := by omega
      have hba : Below wr.heap.size wr (wr.alloc (.cells #[.int .i64 i] 3)) := (Below.refl _ wr).alloc (Nat.le_refl _) _
      have hown1 := own_below hown hba
      have hm1 : i + 1 ≤ maxLen := le_maxLen (by omega)
      have hm2 : (i + 1) * 8 ≤ 140737488355328 := by omega
      have hsz : w.heap.size ≤ (wr.alloc (.cells #[.int .i64 i] 3)).heap.size := Nat.le_trans hb.size hba.size
      have HM1 := Lib.hid hm1; have HM2 := Lib.hid hm2; have HSz := Lib.hid hsz
      clear hm1 hm2 hsz
      go_wp2_with (at_builtin; refine wpList_append_own _ rfl _ _ 63 rfl w.heap.size 3 i0 (.int .i64 0) 1 8 Tryz.underlying63 hi hz0 hz1 hz2 rfl (by decide) _ _ _ rfl hown1 ⟨wr.heap.size, 0, none⟩ 1 1 [.int .i64 i] rfl rfl (cell_one_new _ _ _) (by simp [Value.oneCell']) HM1.out HM2.out HSz.out ?_; intro v' wg hown' hgrow _)
      have hbg : Below w.heap.size w wg := ((hb.alloc hb.size _).grown hgrow (Nat.le_trans hb.size hba.size) (fun k hk => (hown1.lt k hk).1))
      go_roundg r
      case measure => have := HRR.out; omega
      case rel => exact ⟨i + 1, by omega, by have := HRR.out; omega, by go_num, by simpa [numRow, List.range_succ] using hown', hbg⟩
    · obtain rfl : i = n := by omega
      rw [numRow_flat] at hown
      obtain ⟨ao, cp, rfl, hs, -⟩ := slOk_of_own (by omega) hown
      have HS := Lib.hid hs.sl
      clear hs hown
      go_wp2_with fail
      go_ret
      exact ⟨⟨_, _, rfl, HS.out⟩, hb⟩
end Go.Proofs.YteblahoijolegaaGreatDoor
end
