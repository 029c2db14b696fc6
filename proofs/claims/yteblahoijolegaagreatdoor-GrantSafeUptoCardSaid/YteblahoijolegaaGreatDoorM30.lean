import Derived.Test.YteblahoijolegaaGreatDoorM27
import Derived.BigQuiet
import Derived.BigRegion
import Derived.ChangeAlike
import Derived.Deep.DeepCutAuto
import Derived.Deep.Light
import Derived.Deep.LoopGhost
import Derived.Deep.MidRow
import Derived.Deep.QuietTactic
import Derived.Deep.RegionHeld3
import Derived.Deep.WholeRow
import Derived.Defers
import Derived.Great.Walk
import Derived.Laws.BitsAllLaws
import Derived.Laws.CopyOwn
import Derived.Laws.EntriesVeiled
import Derived.Laws.LoneSync
import Derived.Laws.Pointers
import Derived.Laws.StructEq
import Derived.Lib.Hide
import Derived.Lib.LazyBuf
import Derived.Lib.SliceRun
import Derived.LoopIn
import Derived.LoopNIn
import Derived.Maps.AppendAt
import Derived.Maps.Own
import Derived.OwnWalkIn
import Derived.RangeFuncBox
import Derived.RangeFuncCalls
import Derived.RangeFuncKeeps
import Derived.RangeFuncLeaves
import Derived.RangeFuncSeq
import Derived.RegionCalls
import Derived.RegionIn
import Derived.RegionTactic
import Derived.Shelf.Abstract
import Derived.Stop.RegionWithIn
import Derived.StringKeys
import Derived.TacticsInMore
import Derived.Test.YteblahoijolegaaGreatDoorShelf
import Derived.WalkKit
import Derived.WalkLawsBesides
import Derived.WalkSpells
import Derived.WideLaws
section
set_option linter.all false
namespace Go.Proofs.YteblahoijolegaaGreatDoor
open Go.RowKit
open Go.Maps (Keyed)
attribute [local go_sem] Oper.semAt_some
set_option maxHeartbeats 4000000 in
set_option maxRecDepth 20000 in
theorem by_dest {w : World} {ao : Option Addr} {n cp : Nat} {c : Nat → Nat → Value} (hs : SlAt w ao n 2 c) (hn : n ≤ 1000) (h1 : ∀ i j, (c i j).oneCell' = true) (ks : Nat → ByteArray) (hks : ∀ k, k < n → c k 0 = .string (ks k)) (hsz : ∀ k, k < n → (ks k).size ≤ 1048576) :
    Calls Tryz.prog 27 #[.slice ao n cp, .func (.func 28) #[] #[]] w fun e w' => (∃ b, e = .returned (.map (some b))) ∧ Below w.heap.size w w' := by
  obtain ⟨w0, hw0⟩ : ∃ w0 : World, w0 = ((w.alloc (.cells #[.func (.func 28) #[] #[]] 101)).alloc (.map #[] 0)).alloc (.cells #[.map (some (w.heap.size + 1))] 68) := ⟨_, rfl⟩
  have hs0 : w0.heap.size = w.heap.size + 3 := by rw [hw0]; simp
  have hb0 : Below w.heap.size w w0 := by rw [hw0]; (repeat first | exact Below.refl _ _ | assumption | refine Below.alloc ?_ (by simp; try omega) _ | refine Below.drew ?_ | refine Below.drewN ?_ _ | refine Below.setCell ?_ (by simp; try omega) _ | refine Below.trans ?_ (Below.mono (by assumption) (by simp; try omega)))
  have g1 : w0.heap[w.heap.size]? = some (.cells #[.func (.func 28) #[] #[]] 101) := by rw [hw0]; (simp only [heap_drew, heap_allocs, World.size_alloc, if_true] <;> repeat (first | rw [if_pos (by omega)] | rw [if_neg (by omega)]))
  have g3 : w0.heap[w.heap.size + 2]? = some (.cells #[.map (some (w.heap.size + 1))] 68) := by rw [hw0]; (simp only [heap_drew, heap_allocs, World.size_alloc, if_true] <;> repeat (first | rw [if_pos (by omega)] | rw [if_neg (by omega)]))
  have hm0 : w0.ownsMap Tryz.prog 9 anyR (w.heap.size + 1) 0 (.map []) := by
    rw [hw0]
    refine World.ownsMap.alloc ?_ _
    have := World.ownsMap_made (w.alloc (.cells #[.func (.func 28) #[] #[]] 101)) Tryz.prog 9 anyR
    rwa [World.size_alloc] at this
  obtain ⟨wR, hwR⟩ : ∃ wR : World, wR = w0.alloc (.cells #[.slice ao n cp] 25) := ⟨_, rfl⟩
  have hkR : Below w0.heap.size w0 wR := by rw [hwR]; (repeat first | exact Below.refl _ _ | assumption | refine Below.alloc ?_ (by simp; try omega) _ | refine Below.drew ?_ | refine Below.drewN ?_ _ | refine Below.setCell ?_ (by simp; try omega) _ | refine Below.trans ?_ (Below.mono (by assumption) (by simp; try omega)))
  have hsR : wR.heap.size = w.heap.size + 4 := by rw [hwR]; simp [hs0]
  have hbR := hb0.trans (hkR.mono hb0.size)
  have r1 := (hkR.block _ (by omega)).trans g1
  have r3 := (hkR.block _ (by omega)).trans g3
  have rm : wR.ownsMap Tryz.prog 9 anyR (w.heap.size + 1) 0 (.map []) := by rw [hwR]; exact hm0.alloc _
  have r4 : wR.cell? ⟨w.heap.size + 3, 0, none⟩ = some (.slice ao n cp) := by rw [hwR, ← hs0]; exact cell_of (o := 0) (heap_new w0 _)
  have hit := backward1_dest r4 (hs.below hbR) (by omega)
  have HA := Lib.hid (show ∀ a, ao = some a → 0 < n → a.block < w.heap.size from fun a ha h0 => by
    obtain ⟨b, off, hb, hcs⟩ := hs.resolve_left (by omega)
    rw [hb] at ha; cases ha
    exact cell_lt (hcs 0 h0 0 (by omega)))
  have HW0 := Lib.hid hw0; clear hw0
  have HWR := Lib.hid hwR; clear hwR
  have HS0 := Lib.hid hs0
  have HSR := Lib.hid hsR
  have HIT := Lib.hid hit; clear hit
  have HM := Lib.hid rm
  have R1 := Lib.hid r1
  have R3 := Lib.hid r3
  have HN := Lib.hid hsz; clear hsz
  have HKS := Lib.hid hks; clear hks
  have HBR := Lib.hid hbR
  clear g1 g3 hs0 hsR r1 r3 r4 rm hm0 hkR hb0 hs
  have hmm := @run_makeMap Tryz.prog
  refine calls_of_marks Tryz.func27 rfl ?_; simp only [Tryz.ntmps27, List.size_toArray, List.length_cons, List.length_nil, Nat.reduceAdd, Nat.reduceSub, Array.replicate_succ, Array.replicate_zero, List.push_toArray, List.append_toArray, List.nil_append, List.cons_append]
  go_wp2_with fail
  rw [← HW0.out]
  refine (backward_dest ao n cp w0).mono ?_
  rintro e w1 ⟨rfl, rfl⟩
  rw [← HWR.out, HS0.out]
  go_wp2_with fail
  refine (wpIn_wide (n := 0)).1 ?_
  refine' wp_range2 (gf := 155) (lb := #[.pointer (some ⟨w.heap.size + 3, 0, none⟩)]) rfl (enters_of Tryz.func155 (by kernel_rfl) rfl)
    HIT.out (fun _ => rfl) (fun k hk => by
      have h1 := HSR.out
      rcases hk with rfl | ⟨h2, a, h3, rfl⟩
      · omega
      · have := HA.out a h3 h2; omega) (fun k hk => hk.elim)
    (fun pre W => (∃ M, W.ownsMap Tryz.prog 9 anyR (w.heap.size + 1) pre.length M) ∧ W.heap[w.heap.size]? = some (.cells #[.func (.func 28) #[] #[]] 101) ∧ W.heap[w.heap.size + 2]? = some (.cells #[.map (some (w.heap.size + 1))] 68) ∧ Below w.heap.size w W)
    ?hI ?h0
    (fun pre k a1 W => k < n ∧ ∃ D : Nat, D ≠ w.heap.size + 5 ∧ w.heap.size + 4 ≤ D ∧ W.heap[D]? = some (.cells #[c k 0, c k 1] 100) ∧ ((∃ M, W.ownsMap Tryz.prog 9 anyR (w.heap.size + 1) pre.length M) ∧ W.heap[w.heap.size]? = some (.cells #[.func (.func 28) #[] #[]] 101) ∧ W.heap[w.heap.size + 2]? = some (.cells #[.map (some (w.heap.size + 1))] 68) ∧ Below w.heap.size w W) ∧
      a1 = { tmps := #[.slice ao n cp, .func (.func 28) #[] #[], undef, .pointer (some ⟨w.heap.size, 0, none⟩), .map none, .pointer (some ⟨w.heap.size + 2, 0, none⟩), undef, .pointer (some ⟨D, 0, none⟩), .map (some (w.heap.size + 1)), .slice ao n cp,
        .func (.func 155) #[] #[.pointer (some ⟨w.heap.size + 3, 0, none⟩)], .int .i64 k, .agg #[c k 0, c k 1], undef, undef, undef, undef, undef, undef], defers := [] })
    ?hA1 ?hassign ?hbody ?hdone
  case hI =>
    rintro pre A B ⟨⟨M, i0⟩, i1, i2, i3⟩ - hk
    have hsR := HSR.out
    have hz := (Array.getElem?_eq_some_iff.1 i2).1
    exact ⟨⟨M, ownsMap_kept i0 hk ⟨fun h => h, by omega⟩⟩, (hk.block _ (by omega) ⟨fun h => h, by omega⟩).trans i1, (hk.block _ (by omega) ⟨fun h => h, by omega⟩).trans i2, i3.trans (hk.below (by exact i3.size) fun k hk => ⟨fun h => h, by omega⟩)⟩
  case h0 =>
    intro V hV hVs
    have hsR := HSR.out
    have hbV : Below wR.heap.size wR V := hV.below (Nat.le_refl _) (fun _ _ => trivial)
    exact ⟨⟨_, ownsMap_kept HM.out hV trivial⟩, (hbV.block _ (by omega)).trans R1.out, (hbV.block _ (by omega)).trans R3.out, hbR.trans (hbV.mono hbR.size)⟩
  case hA1 =>
    rintro pre k a1 A B ⟨hkn, D, n1, n2, e1, ⟨⟨M, i0⟩, i1, i2, i3⟩, rfl⟩ hk
    have hsR := HSR.out
    have hz := (Array.getElem?_eq_some_iff.1 e1).1
    exact ⟨hkn, D, n1, n2, (hk.block _ hz (by omega)).trans e1, ⟨⟨M, ownsMap_kept i0 hk (by omega)⟩, (hk.block _ (by omega) (by omega)).trans i1, (hk.block _ (by omega) (by omega)).trans i2, i3.trans (hk.below i3.size fun k hk => by omega)⟩, rfl⟩
  case hassign =>
    rintro l pre k W K hpx ⟨⟨M, i0⟩, i1, i2, i3⟩ hsz hK
    have hsR := HSR.out
    have hkn : k < n := bkL_mem (hpx.subset (by simp))
    have HK := Lib.hid hK; clear hK
    have hbA : Below W.heap.size W (W.alloc (.cells #[c k 0, c k 1] 100)) := (Below.refl _ _).alloc (Nat.le_refl _) _
    have s0 := fun (a : Addr) (w : World) => run_storeB w a (c k 0) (h1 k 0); have s1 := fun (a : Addr) (w : World) => run_storeB w a (c k 1) (h1 k 1)
    gi_wp2
    refine HK.out _ _ ⟨hkn, W.heap.size, by omega, by omega, heap_new W _, ⟨⟨M, i0.alloc _⟩, (hbA.block _ (by omega)).trans i1, (hbA.block _ (by omega)).trans i2, i3.alloc i3.size _⟩, rfl⟩ ((Kept.refl _ W).alloc _)
  case hbody =>
    rintro l pre k a1 W hpx ⟨hkn, D, n1, n2, e1, ⟨⟨M, i0⟩, i1, i2, i3⟩, rfl⟩ hsz
    have hsR := HSR.out
    have hlen : pre.length < n := by
      have := hpx.length_le
      rw [bkL_len] at this
      simp at this; omega
    have c0 := cell_of (o := 0) e1; have c3 := cell_of (o := 1) e1
    have c1 := cell_of (o := 0) i1
    have c2 := cell_of (o := 0) i2
    have hkz := HKS.out k hkn
    have hsk := HN.out k hkn
    obtain ⟨Wa, hWa⟩ : ∃ Wa : World, Wa = W.alloc (.cells #[c k 0, c k 1] 100) := ⟨_, rfl⟩
    have hka : Kept (fun _ => True) W Wa := by rw [hWa]; exact (Kept.refl _ W).alloc _
    obtain ⟨Wb, hrun, hmb, hgb⟩ := (ownsMap_kept i0 hka.drew trivial).update (t := 68) (Go.Maps.string_keyed Tryz.underlying9) Tryz.underlying68 (by unfold maxLen; omega) (key := .string (ks k)) (val := .agg #[c k 0, c k 1]) (Go.WideMaps.keyOf_string_mk Tryz.underlying9 (by unfold maxLen; omega)) rfl
    rw [hkz] at c0
    have d0 := hka.cell (show W.cell? ⟨D, 0, none⟩ = some (.string (ks k)) from c0) trivial
    have d1 := hka.cell (show W.cell? ⟨D, 1, none⟩ = some (c k 1) from c3) trivial
    have dm := hka.cell (show W.cell? ⟨w.heap.size + 2, 0, none⟩ = some (.map (some (w.heap.size + 1))) from c2) trivial
    have dn := hka.cell (show W.cell? ⟨w.heap.size, 0, none⟩ = some (.func (.func 28) #[] #[]) from c1) trivial
    rw [hWa] at hrun d0 d1 dm dn
    rw [hkz] at hrun d0 d1 dm dn ⊢
    have HWa := Lib.hid hWa; clear hWa
    have hka2 := (hka.drew.mono (keep' := fun k => k ≠ w.heap.size + 1) (fun _ _ _ => trivial)).trans (kept_grown (keep := fun k => k ≠ w.heap.size + 1) hgb (by simp))
    have hkz2 := hka2.below i3.size (fun k hk => by omega)
    have HMB := Lib.hid (show ∃ M', Wb.ownsMap Tryz.prog 9 anyR (w.heap.size + 1) (pre ++ [k]).length M' from ⟨_, by rw [List.length_append]; exact hmb⟩); clear hmb
    have HI1 := Lib.hid ((hka2.block _ (by omega) (by omega)).trans i1)
    have HI2 := Lib.hid ((hka2.block _ (by omega) (by omega)).trans i2)
    have HB := Lib.hid (i3.trans hkz2)
    have HK2 := Lib.hid (hka2.mono (keep' := fun k => (k = w.heap.size + 3 ∨ 0 < n ∧ ∃ a, ao = some a ∧ a.block = k) ∨ k = wR.heap.size ∨ k = wR.heap.size + 1) (fun k hk h => by
      rcases h with (h | ⟨h1, a, h2, rfl⟩) | h | h
      · omega
      · have := HA.out a h2 h1; omega
      · omega
      · omega))
    clear hkz hgb hka hka2 i0 i1 i2 hkz2 e1 HN HKS HIT HM R1 R3
    gi_wp2_with fail
    have hf1 : Fence.wide.fn 28 := trivial
    have hf2 : Fence.wide.depth = none := rfl
    gi_region_with (refine (CallsIn.inRound l (callsIn_wide.2 (of2 (ks k) (c k 1) W.drew))).mono ?_; rintro e w' ⟨rfl, rfl⟩)
    all_goals exact ⟨rfl, ⟨HMB.out, HI1.out, HI2.out, HB.out⟩, HK2.out⟩
  case hdone =>
    rintro D W hD ⟨⟨M, i0⟩, i1, i2, i3⟩ hK1 hz1
    have c2 := cell_of (o := 0) i2
    have c3 : W.cell? ⟨w.heap.size + 1 + 1, 0, none⟩ = some (.map (some (w.heap.size + 1))) := c2
    have hsR := HSR.out
    go_wp2_with fail
    refine ⟨by simp, .inl ⟨_, _, rfl, run_takeDeferred hK1, ⟨_, results_tmp rfl _ _ _, ⟨_, rfl⟩, ?_⟩⟩⟩
    exact ((kall i3).putNew (by omega) _).below (Nat.le_refl _) (fun _ _ => trivial)
end Go.Proofs.YteblahoijolegaaGreatDoor
end
