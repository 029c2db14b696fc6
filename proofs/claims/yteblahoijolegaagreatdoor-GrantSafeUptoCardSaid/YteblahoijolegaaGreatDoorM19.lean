import Derived.Test.YteblahoijolegaaGreatDoorM15
import Derived.Test.YteblahoijolegaaGreatDoorM17
import Derived.Test.YteblahoijolegaaGreatDoorM18
import Derived.BigQuiet
import Derived.BigRegion
import Derived.ChangeAlike
import Derived.Deep.DeepCutAuto
import Derived.Deep.Light
import Derived.Deep.LoopGhost
import Derived.Deep.MidRow
import Derived.Deep.QuietTactic
import Derived.Deep.RegionHeld3
import Derived.Deep.WholeRow
import Derived.Defers
import Derived.Great.Walk
import Derived.Laws.BitsAllLaws
import Derived.Laws.CopyOwn
import Derived.Laws.EntriesVeiled
import Derived.Laws.LoneSync
import Derived.Laws.Pointers
import Derived.Laws.StructEq
import Derived.Lib.Hide
import Derived.Lib.LazyBuf
import Derived.Lib.SliceRun
import Derived.LoopIn
import Derived.LoopNIn
import Derived.Maps.AppendAt
import Derived.OwnWalkIn
import Derived.RangeFuncBox
import Derived.RangeFuncKeeps
import Derived.RangeFuncLeaves
import Derived.RangeFuncSeq
import Derived.RegionCalls
import Derived.RegionIn
import Derived.RegionTactic
import Derived.Shelf.Abstract
import Derived.TacticsInMore
import Derived.Test.YteblahoijolegaaGreatDoorShelf
import Derived.WalkKit
import Derived.WalkLawsBesides
import Derived.WalkSpells
import Derived.WideLaws
section
set_option linter.all false
namespace Go.Proofs.YteblahoijolegaaGreatDoor
open Go.RowKit
open Go.Great (wpList_runTo)

/-- all edges, one by one; none: one closes a cycle -/
def addAll : List (Nat × Nat) → List Nat → List Nat → Option (List Nat × List Nat)
  | [], up, down => some (up, down)
  | (lo, hi) :: r, up, down => if (up[hi]?.getD 0).testBit lo then none else addAll r (orAt up (up[hi]?.getD 0) (lows (down[lo]?.getD 0))) (orAt down (down[lo]?.getD 0) (lows (up[hi]?.getD 0)))
theorem ordOk_add {n : Nat} {up down : List Nat} (k : OrdOk n up down) (lo hi : Nat) : OrdOk n (orAt up (up[hi]?.getD 0) (lows (down[lo]?.getD 0))) (orAt down (down[lo]?.getD 0) (lows (up[hi]?.getD 0))) :=
  { pos := k.pos, small := k.small, ubd := orAt_lt up _ _ k.ubd (getD_lt2 k.ubd hi), dbd := orAt_lt down _ _ k.dbd (getD_lt2 k.dbd lo) }
theorem ordOk_new {n : Nat} (h1 : 1 ≤ n) (h2 : n ≤ 10) : OrdOk n ((List.range n).map fun a => 2 ^ a) ((List.range n).map fun a => 2 ^ a) := by
  have h : ∀ s ∈ (List.range n).map (fun a => 2 ^ a), s < 2 ^ n := by
    intro s hs
    obtain ⟨a, ha, rfl⟩ := List.mem_map.1 hs
    exact Nat.pow_lt_pow_right (by omega) (List.mem_range.1 ha)
  exact { pos := h1, small := h2, ubd := h, dbd := h }
/-- the first name that is none, or is there twice -/
def nmsF (f : Nat → ByteArray) : Nat → Nat → Bool
  | 0, _ => true
  | r + 1, i => nameB (f i) && (!anyx (fun k => (f i).toList == (f k).toList) i && nmsF f r (i + 1))
def nmsB (f : Nat → ByteArray) (n : Nat) : Bool := nmsF f n 0
theorem nmsF_no {f : Nat → ByteArray} {n i : Nat} (hi : i < n) (h : (nameB (f i) && !anyx (fun k => (f i).toList == (f k).toList) i) = false) (he : nmsF f (n - i) i = nmsB f n) : nmsB f n = false := by
  rw [← he, show n - i = (n - (i + 1)) + 1 by omega, nmsF, ← Bool.and_assoc, h]; rfl
theorem nmsF_yes {f : Nat → ByteArray} {n i : Nat} (hi : i < n) (h1 : nameB (f i) = true) (h2 : anyx (fun k => (f i).toList == (f k).toList) i = false) (he : nmsF f (n - i) i = nmsB f n) : nmsF f (n - (i + 1)) (i + 1) = nmsB f n := by
  rw [← he, show n - i = (n - (i + 1)) + 1 by omega, nmsF, h1, h2]; rfl

/-- what Make says of names and edges -/
def mkCode (f : Nat → ByteArray) (n : Nat) (g : Nat → Int × Int) (m : Nat) : Int :=
  if n < 1 ∨ 10 < n then 2 else if nmsB f n = false then 31 else if anyx (fun i => !labB n (g i).1 || !labB n (g i).2) m then 9 else
  match addAll ((List.range m).map fun i => ((g i).1.toNat, (g i).2.toNat)) ((List.range n).map fun a => 2 ^ a) ((List.range n).map fun a => 2 ^ a) with
  | none => 20
  | some (up, down) => if wholeB up down n then 0 else 30
theorem mk_short {f : Nat → ByteArray} {n : Nat} {g : Nat → Int × Int} {m : Nat} (h : n < 1 ∨ 10 < n) : mkCode f n g m = 2 := by rw [mkCode, if_pos h]
theorem mk_name {f : Nat → ByteArray} {n : Nat} {g : Nat → Int × Int} {m : Nat} (h : ¬ (n < 1 ∨ 10 < n)) (h2 : nmsB f n = false) : mkCode f n g m = 31 := by rw [mkCode, if_neg h, if_pos h2]
theorem mk_range {f : Nat → ByteArray} {n : Nat} {g : Nat → Int × Int} {m : Nat} (h : ¬ (n < 1 ∨ 10 < n)) (h2 : nmsB f n = true) (h3 : anyx (fun i => !labB n (g i).1 || !labB n (g i).2) m = true) : mkCode f n g m = 9 := by
  rw [mkCode, if_neg h, if_neg (by rw [h2]; simp), if_pos h3]
def MkPost (f : Nat → ByteArray) (n : Nat) (g : Nat → Int × Int) (m : Nat) (w : World) (e : Ending) (w' : World) : Prop :=
  Below w.heap.size w w' ∧ ((mkCode f n g m ≠ 0 ∧ e = .returned (.tuple #[.pointer none, .int .i64 (mkCode f n g m)])) ∨
    (mkCode f n g m = 0 ∧ ∃ l b bu bd up down, e = .returned (.tuple #[.pointer (some ⟨l, 0, none⟩), .int .i64 0]) ∧ LatAt w' l b bu bd n up down (lastOf (fullS down n) 0 n) ∧ OrdOk n up down ∧ w.heap.size ≤ l ∧
      addAll ((List.range m).map fun i => ((g i).1.toNat, (g i).2.toNat)) ((List.range n).map fun a => 2 ^ a) ((List.range n).map fun a => 2 ^ a) = some (up, down)))
set_option maxHeartbeats 4000000 in
set_option maxRecDepth 20000 in
theorem lat_Make {w : World} {ao bo : Option Addr} {n cp m cq : Nat} {f : Nat → ByteArray} {g : Nat → Int × Int} (hn : n ≤ 100000) (hm : m ≤ 100000) (hcp : n ≤ cp) (hno : ao = none → n = 0 ∧ cp = 0) (hsp : ∀ a, ao = some a → a.spot = none)
    (hs : SlAt w ao n 1 (fun i _ => .string (f i))) (hg : SlAt w bo m 2 (fun i j => .int .i64 (if j = 0 then (g i).1 else (g i).2))) (ht : DbAt w) :
    Calls Tryz.prog 24 #[.slice ao n cp, .slice bo m cq] w (MkPost f n g m w) := by
  have hb0 : Below w.heap.size w (w.alloc (.cells #[.slice ao n cp] 22)) := (Below.refl _ w).alloc (Nat.le_refl _) _
  by_cases hn1 : n < 1
  · have hn2 : (n : Int) < 1 := by omega
    have hc := Lib.hid (mk_short (f := f) (g := g) (m := m) (.inl hn1))
    clear hn1 hs hg
    go_enter Tryz.func24, Tryz.ntmps24
    go_wp2
    go_ret2
    exact ⟨hb0, .inl ⟨by rw [hc.out]; decide, by rw [hc.out]; rfl⟩⟩
  · by_cases hn10 : 10 < n
    · have hn2 : ¬ (n : Int) < 1 := by omega
      have hn3 : (10 : Int) < n := by omega
      have hc := Lib.hid (mk_short (f := f) (g := g) (m := m) (.inr hn10))
      clear hn1 hn10 hs hg
      go_enter Tryz.func24, Tryz.ntmps24
      go_wp2
      go_ret2
      exact ⟨hb0, .inl ⟨by rw [hc.out]; decide, by rw [hc.out]; rfl⟩⟩
    · have hn2 : ¬ (n : Int) < 1 := by omega
      have hn3 : ¬ (10 : Int) < n := by omega
      obtain ⟨w0, hw0⟩ : ∃ w0 : World, w0 = w.alloc (.cells #[.slice ao n cp] 22) := ⟨_, rfl⟩
      rw [← hw0] at hb0
      have hbx : w0.heap[w.heap.size]? = some (.cells #[.slice ao n cp] 22) := by rw [hw0]; exact heap_new w _
      obtain ⟨av, off, rfl⟩ : ∃ av off, ao = some ⟨av, off, none⟩ := by
        rcases hs with h | ⟨a, o, h, _⟩
        · omega
        · exact ⟨a, o, h⟩
      have hs0 := hs.below hb0
      have cx := cell_of (o := 0) hbx
      have HW := Lib.hid hw0; clear hw0
      have HBX := Lib.hid hbx; clear hbx
      have HS := Lib.hid hs0; clear hs0 hs
      have HG := Lib.hid (hg.below hb0); clear hg
      go_enter Tryz.func24, Tryz.ntmps24
      go_wp2_with fail
      rw [← HW.out]
      go_loopg [25] n (fun r s25 wr => ∃ i : Nat, i ≤ n ∧ r = n - i ∧ s25 = .int .i64 i ∧ nmsF f r i = nmsB f n ∧ Below w0.heap.size w0 wr)
      case atStart => exact ⟨0, by omega, rfl, rfl, rfl, Below.refl _ _⟩
      case round =>
        obtain ⟨i, hi, rfl, rfl, he, hb⟩ := hrel
        have HE := Lib.hid he; clear he
        by_cases hlt : i < n
        · have hlt2 : (i : Int) < n := by omega
          have hi0 : (0 : Int) ≤ i := by omega
          have hi1 : (i : Int) ≤ n := by omega
          have hi2 : (i : Int) ≤ cp := by omega
          have hi3 : (n : Int) ≤ cp := by omega
          rcases HS.out.below hb with h0 | ⟨a1, off1, h1, hcs⟩
          · omega
          cases h1
          have d0 := hcs i hlt 0 (by omega)
          simp only [Nat.mul_one, Nat.add_zero] at d0
          clear hcs
          have cxw := (hb.cell (p := ⟨w.heap.size, 0, none⟩) (cell_lt cx)).trans cx
          have hnm := text_Name (f i) wr
          have HCt := Lib.hid (show ∀ W, Below wr.heap.size wr W → _ from fun W (hW : Below wr.heap.size wr W) => contains_string (some ⟨av, off, none⟩) i cp (by omega) f (f i) W (slAt_take (HS.out.below (hb.trans (hW.mono hb.size))) (by omega)))
          rcases (Bool.eq_false_or_eq_true (nameB (f i))).symm with e1 | e1
          · rw [nameS_no e1] at hnm
            have HN := Lib.hid (nmsF_no hlt (by rw [e1]; rfl) HE.out)
            clear e1
            have HC := Lib.hid (mk_name (g := g) (m := m) (by omega) HN.out)
            go_wp2_with fail
            refine hnm.mono ?_; rintro e w1 ⟨rfl, hb1⟩
            have hb2 := hb0.trans ((hb.trans (hb1.mono hb.size)).mono hb0.size)
            go_wp2_with fail
            go_ret2
            exact ⟨hb2, .inl ⟨by rw [HC.out]; decide, by rw [HC.out]; rfl⟩⟩
          · rw [nameS_yes e1] at hnm
            have E1 := Lib.hid e1; clear e1
            rcases Bool.eq_false_or_eq_true (anyx (fun k => (f i).toList == (f k).toList) i) with e2 | e2
            · have HN := Lib.hid (nmsF_no hlt (by rw [e2]; simp) HE.out)
              have HC := Lib.hid (mk_name (g := g) (m := m) (by omega) HN.out)
              have E2 := Lib.hid e2; clear e2
              go_wp2_with fail
              refine hnm.mono ?_; rintro e w1 ⟨rfl, hb1⟩
              have hb2 := hb.trans (hb1.mono hb.size)
              have cx1 := (hb2.cell (p := ⟨w.heap.size, 0, none⟩) (cell_lt cx)).trans cx
              go_wp2_with fail
              refine (HCt.out w1 hb1).mono ?_; rintro e w2 ⟨rfl, hb3⟩
              rw [E2.out]
              have hb4 := hb0.trans ((hb2.trans (hb3.mono hb2.size)).mono hb0.size)
              go_wp2_with fail
              go_ret2
              exact ⟨hb4, .inl ⟨by rw [HC.out]; decide, by rw [HC.out]; rfl⟩⟩
            · have HN := Lib.hid (nmsF_yes hlt E1.out e2 HE.out)
              have E2 := Lib.hid e2; clear e2
              go_wp2_with fail
              refine hnm.mono ?_; rintro e w1 ⟨rfl, hb1⟩
              have hb2 := hb.trans (hb1.mono hb.size)
              have cx1 := (hb2.cell (p := ⟨w.heap.size, 0, none⟩) (cell_lt cx)).trans cx
              go_wp2_with fail
              refine (HCt.out w1 hb1).mono ?_; rintro e w2 ⟨rfl, hb3⟩
              rw [E2.out]
              have hb4 := hb2.trans (hb3.mono hb2.size)
              go_wp2_with fail
              go_roundg (n - (i + 1))
              case measure => omega
              case rel => exact ⟨i + 1, by omega, rfl, by go_num, HN.out, hb4⟩
        · obtain rfl : n = i := by omega
          have hlt2 : ¬ (n : Int) < n := by omega
          have HN := Lib.hid (show nmsB f n = true by rw [← HE.out, Nat.sub_self]; rfl)
          clear HE
          obtain ⟨w3, hw3⟩ : ∃ w3 : World, w3 = wr.alloc (.cells #[.func (.func 86) #[] #[.pointer (some ⟨w.heap.size, 0, none⟩)]] 167) := ⟨_, rfl⟩
          have hb3 : Below wr.heap.size wr w3 := by rw [hw3]; exact (Below.refl _ wr).alloc (Nat.le_refl _) _
          have hf3 : w3.heap[wr.heap.size]? = some (.cells #[.func (.func 86) #[] #[.pointer (some ⟨w.heap.size, 0, none⟩)]] 167) := by rw [hw3]; exact heap_new wr _
          have hb03 := hb.trans (hb3.mono hb.size)
          have cx3 := (hb03.cell (p := ⟨w.heap.size, 0, none⟩) (cell_lt cx)).trans cx
          have cf3 := cell_of (o := 0) hf3
          have hcf := containsFunc_pair bo m cq hm (fun i j => .int .i64 (if j = 0 then (g i).1 else (g i).2)) (fun i => !labB n (g i).1 || !labB n (g i).2) 88 #[.pointer (some ⟨wr.heap.size, 0, none⟩)] (enters_of Tryz.func88 (by kernel_rfl) rfl) w3 (HG.out.below hb03)
            (fun k hk W hW => lat_Make2 (g k).1 (g k).2 ((hW.cell (p := ⟨w.heap.size, 0, none⟩) (cell_lt cx3)).trans cx3) ((hW.cell (p := ⟨wr.heap.size, 0, none⟩) (cell_lt cf3)).trans cf3))
          have HCF := Lib.hid hcf; clear hcf
          have HW3 := Lib.hid hw3; clear hw3 hf3 cf3
          have cxw := (hb.cell (p := ⟨w.heap.size, 0, none⟩) (cell_lt cx)).trans cx
          rcases Bool.eq_false_or_eq_true (anyx (fun i => !labB n (g i).1 || !labB n (g i).2) m) with e3 | e3
          · have HC := Lib.hid (mk_range (f := f) (by omega) HN.out e3)
            have E3 := Lib.hid e3; clear e3
            go_wp2_with fail
            rw [← HW3.out]
            refine HCF.out.mono ?_; rintro e w4 ⟨rfl, hb4⟩
            rw [E3.out]
            have hb5 := hb0.trans ((hb03.trans (hb4.mono hb03.size)).mono hb0.size)
            go_wp2_with fail
            go_ret2
            exact ⟨hb5, .inl ⟨by rw [HC.out]; decide, by rw [HC.out]; rfl⟩⟩
          · have E3 := Lib.hid e3; clear e3
            go_wp2_with fail
            rw [← HW3.out]
            refine HCF.out.mono ?_; rintro e w4 ⟨rfl, hb4⟩
            rw [E3.out]
            have hb5 := hb03.trans (hb4.mono hb03.size)
            have cx4 := (hb5.cell (p := ⟨w.heap.size, 0, none⟩) (cell_lt cx)).trans cx
            clear cx3 cxw
            go_wp2_with fail
            refine (order_New_yes n w4 (by omega) (by omega)).mono ?_
            rintro e w5 ⟨b, bu, bd, rfl, hO, hb6, z1, z2, z3⟩
            have hb7 := hb5.trans (hb6.mono hb5.size)
            have cx5 := (hb7.cell (p := ⟨w.heap.size, 0, none⟩) (cell_lt cx)).trans cx
            clear cx4
            have HO := Lib.hid hO; clear hO
            obtain ⟨L, hL⟩ : ∃ L, L = (List.range m).map fun i => ((g i).1.toNat, (g i).2.toNat) := ⟨_, rfl⟩
            have hLl : L.length = m := by rw [hL]; simp
            have hLg : ∀ k (h : k < m), L.drop k = ((g k).1.toNat, (g k).2.toNat) :: L.drop (k + 1) := fun k h => by
              rw [List.drop_eq_getElem_cons (by rw [hLl]; exact h)]; congr 1; simp [hL]
            have HR := Lib.hid (show ∀ k, k < m → (0 ≤ (g k).1 ∧ (g k).1 < n) ∧ (0 ≤ (g k).2 ∧ (g k).2 < n) from fun k hk => by
              have := E3.out
              by_cases hh : (0 ≤ (g k).1 ∧ (g k).1 < n) ∧ (0 ≤ (g k).2 ∧ (g k).2 < n)
              · exact hh
              · exfalso
                have ht : anyx (fun i => !labB n (g i).1 || !labB n (g i).2) m = true := (anyx_iff _ _).2 ⟨k, hk, by
                  rcases Classical.not_and_iff_not_or_not.1 hh with h | h
                  · rw [labB, decide_eq_false h]; rfl
                  · rw [Bool.or_comm, labB, decide_eq_false h]; rfl⟩
                rw [ht] at this; cases this)
            have HL := Lib.hid hL; clear hL
            have HLG := Lib.hid hLg; clear hLg
            have HLL := Lib.hid hLl; clear hLl
            go_wp2_with fail
            go_loopg [56] m (fun r s56 wr => ∃ (k : Nat) (up down : List Nat), k ≤ m ∧ r = m - k ∧ s56 = .int .i64 k ∧ OrdMem wr b bu bd n up down ∧ OrdOk n up down ∧ addAll (L.drop k) up down = addAll L ((List.range n).map fun a => 2 ^ a) ((List.range n).map fun a => 2 ^ a) ∧ Below w0.heap.size w0 wr)
            case atStart => exact ⟨0, _, _, by omega, rfl, rfl, HO.out, ordOk_new (by omega) (by omega), rfl, hb7⟩
            case round =>
              clear hb7 HO
              obtain ⟨k, up, down, hk, rfl, rfl, hO, hok, hadd, hbk⟩ := hrel
              obtain ⟨wq, hwq⟩ : ∃ wq : World, wq = wr := ⟨_, rfl⟩
              subst hwq
              have HA := Lib.hid hadd; clear hadd
              by_cases hlt : k < m
              · have hlt2 : (k : Int) < m := by omega
                obtain ⟨⟨r1, r2⟩, r3, r4⟩ := HR.out k hlt
                obtain ⟨lo, hlo⟩ := Int.eq_ofNat_of_zero_le r1
                obtain ⟨hg2, hhi⟩ := Int.eq_ofNat_of_zero_le r3
                rcases HG.out.below hbk with h0 | ⟨a1, off1, h1, hcs⟩
                · omega
                subst h1
                have d0 := hcs k hlt 0 (by omega)
                have d1 := hcs k hlt 1 (by omega)
                simp only [Nat.add_zero, if_true, Nat.one_ne_zero, if_false] at d0 d1
                rw [hlo] at d0
                rw [hhi] at d1
                clear hcs
                have hst := HA.out
                rw [HLG.out k hlt, addAll, hlo, hhi] at hst
                simp only [Int.toNat_natCast] at hst
                have HST := Lib.hid hst; clear hst
                have hl1 : lo < n := by omega
                have hl2 : hg2 < n := by omega
                clear r1 r2 r3 r4 hlo hhi
                obtain ⟨wA, hwA⟩ : ∃ wA : World, wA = wq.alloc (.cells #[.int .i64 (lo : Nat), .int .i64 (hg2 : Nat)] 60) := ⟨_, rfl⟩
                have hbA : Below wq.heap.size wq wA := by rw [hwA]; exact (Below.refl _ wq).alloc (Nat.le_refl _) _
                have hbwA := hb0.trans ((hbk.trans (hbA.mono hbk.size)).mono hb0.size)
                have hOA := hO.kept (kall hbA) trivial trivial trivial
                have htA := ht.kept (kall (hbwA.mono (Nat.le_refl _))) trivial
                have HWA := Lib.hid hwA; clear hwA
                have hbz : w0.heap.size ≤ bu ∧ w0.heap.size ≤ bd := by have := hb5.size; omega
                rcases Bool.eq_false_or_eq_true ((up[hg2]?.getD 0).testBit lo) with e4 | e4
                · have HC := Lib.hid (show mkCode f n g m = 20 by
                    have h1 := HST.out
                    rw [if_pos e4] at h1
                    rw [mkCode, if_neg (by omega), if_neg (by simp [HN.out]), if_neg (by simp [E3.out]), ← HL.out, ← h1])
                  have hca := Lib.hid (add_cycle hOA hok lo hg2 _ hl1 hl2 rfl e4)
                  clear e4
                  go_wp2_with fail
                  rw [← HWA.out]
                  refine hca.out.mono ?_; rintro e w6 ⟨rfl, hb8⟩
                  have hb9 := hbwA.trans (hb8.mono hbwA.size)
                  go_wp2_with fail
                  go_ret2
                  exact ⟨hb9, .inl ⟨by rw [HC.out]; decide, by rw [HC.out]; rfl⟩⟩
                · have hca := Lib.hid (add_ok hOA hok lo hg2 _ _ hl1 hl2 rfl rfl e4 htA)
                  have h4 := HST.out
                  rw [if_neg (by simp [e4])] at h4
                  have HS4 := Lib.hid h4; clear h4
                  clear e4
                  go_wp2_with fail
                  rw [← HWA.out]
                  refine hca.out.mono ?_; rintro e w6 ⟨rfl, hO6, hk6⟩
                  have hb8 := (hbk.trans (hbA.mono hbk.size)).trans (hk6.below (Nat.le_trans hbk.size hbA.size) (fun x hx => by omega))
                  have HO6 := Lib.hid hO6; clear hO6
                  go_wp2_with fail
                  go_roundg (m - (k + 1))
                  case measure => omega
                  case rel => exact ⟨k + 1, _, _, by omega, rfl, by go_num, HO6.out, ordOk_add hok lo hg2, HS4.out, hb8⟩
              · obtain rfl : m = k := by omega
                have hlt2 : ¬ (m : Int) < m := by omega
                have hfin : addAll L ((List.range n).map fun a => 2 ^ a) ((List.range n).map fun a => 2 ^ a) = some (up, down) := by
                  rw [← HA.out, List.drop_eq_nil_of_le (by rw [HLL.out]; exact Nat.le_refl _)]; rfl
                have HF := Lib.hid hfin; clear hfin HA
                have cx6 := (hbk.cell (p := ⟨w.heap.size, 0, none⟩) (cell_lt cx)).trans cx
                have hcl := Lib.hid (clone_string (some ⟨av, off, none⟩) n cp hn hno hsp (fun i _ => .string (f i)) (fun _ _ => rfl) wq (HS.out.below hbk))
                go_wp2_with fail
                refine hcl.out.mono ?_; rintro e w7 ⟨v, rfl, hv, hb8⟩
                obtain ⟨av2, cp2, rfl, q1, q2, q3, q4⟩ := slAt_of_own (w := w7) (by omega) hv
                have hb9 : Below w0.heap.size w0 w7 := hbk.trans (hb8.mono hbk.size)
                have cx7 := (hb9.cell (p := ⟨w.heap.size, 0, none⟩) (cell_lt cx)).trans cx
                dsimp only
                apply_assumption
                refine wpList_runTo rfl (some 72) rfl (.pointer (some ⟨b, 0, none⟩)) w7 (by simp [execOp, go_sem]) ?_
                simp only [Act.put, List.setIfInBounds_toArray, List.set_cons_zero, List.set_cons_succ]
                refine wpList_buildTo rfl 178 _ rfl (some 73) rfl [(0, .slice av2 n cp2), (1, .pointer (some ⟨b, 0, none⟩))] (by simp [go_sem]) _ (built_lat av2 n cp2 (some ⟨b, 0, none⟩)) ?_
                obtain ⟨A0, hA0⟩ : ∃ A0, A0 = latArr (.slice av2 n cp2) (.pointer (some ⟨b, 0, none⟩)) 0 0 0 (fun _ => 0) (fun _ => 0) 0 0 := ⟨_, rfl⟩
                rw [← hA0]
                have hlm := heap_new w7 (.cells A0 178)
                have HA0 := Lib.hid hA0; clear hA0
                have HLM := Lib.hid hlm; clear hlm
                have hbB : Below w7.heap.size w7 (w7.alloc (.cells A0 178)) := (Below.refl _ w7).alloc (Nat.le_refl _) _
                have hqB : Below wq.heap.size wq (w7.alloc (.cells A0 178)) := hb8.trans (hbB.mono hb8.size)
                have hwB : Below w.heap.size w (w7.alloc (.cells A0 178)) := hb0.trans ((hbk.trans (hqB.mono hbk.size)).mono hb0.size)
                have hO8 := hO.kept (kall hqB) trivial trivial trivial
                have ht8 := ht.kept (kall hwB) trivial
                have hl8 : LatMem (w7.alloc (.cells A0 178)) w7.heap.size (.slice av2 n cp2) (.pointer (some ⟨b, 0, none⟩)) 0 0 0 (fun _ => 0) (fun _ => 0) 0 0 := by rw [LatMem, ← HA0.out]; exact HLM.out
                have hwh := Lib.hid (lat_whole hO8 hok ht8 hl8)
                have HO8 := Lib.hid hO8; clear hO8 hl8
                have hw7 : w.heap.size ≤ w7.heap.size := Nat.le_trans hb0.size (Nat.le_trans hbk.size hb8.size)
                have nb : b ≠ w7.heap.size ∧ bu ≠ w7.heap.size ∧ bd ≠ w7.heap.size := by
                  have h1 := (Array.getElem?_eq_some_iff.1 hO.blk).1
                  have h2 := (Array.getElem?_eq_some_iff.1 hO.up).1
                  have h3 := (Array.getElem?_eq_some_iff.1 hO.down).1
                  have := hb8.size
                  omega
                rcases Bool.eq_false_or_eq_true (wholeB up down n) with e5 | e5
                · have HC := Lib.hid (show mkCode f n g m = 0 by
                    have h1 := HF.out
                    rw [HL.out] at h1
                    rw [mkCode, if_neg (by omega), if_neg (by simp [HN.out]), if_neg (by simp [E3.out]), h1]
                    simp [e5])
                  have E5 := Lib.hid e5; clear e5
                  go_wp2_with fail
                  refine hwh.out.mono ?_; rintro e w9 ⟨rfl, jf, mf, hL9, hJ9, hM9, hK9⟩
                  rw [E5.out]
                  have hb10 : Below w.heap.size w w9 := hwB.trans (hK9.below (by simp; omega) (fun x hx => by omega))
                  have HFin := Lib.hid (show LatAt w9 w7.heap.size b bu bd n up down (lastOf (fullS down n) 0 n) from ⟨HO8.out.kept hK9 nb.1 nb.2.1 nb.2.2, _, _, jf, mf, _, hL9, hJ9⟩)
                  clear hL9 hJ9 hM9 hK9
                  go_wp2_with fail
                  go_ret2
                  exact ⟨hb10, .inr ⟨HC.out, _, _, _, _, up, down, rfl, HFin.out, hok, hw7, by rw [← HL.out]; exact HF.out⟩⟩
                · have HC := Lib.hid (show mkCode f n g m = 30 by
                    have h1 := HF.out
                    rw [HL.out] at h1
                    rw [mkCode, if_neg (by omega), if_neg (by simp [HN.out]), if_neg (by simp [E3.out]), h1]
                    simp [e5])
                  have E5 := Lib.hid e5; clear e5
                  go_wp2_with fail
                  refine hwh.out.mono ?_; rintro e w9 ⟨rfl, jf, mf, hL9, hJ9, hM9, hK9⟩
                  rw [E5.out]
                  have hb10 : Below w.heap.size w w9 := hwB.trans (hK9.below (by simp; omega) (fun x hx => by omega))
                  clear hL9 hJ9 hM9 hK9
                  go_wp2_with fail
                  go_ret2
                  exact ⟨hb10, .inl ⟨by rw [HC.out]; decide, by rw [HC.out]; rfl⟩⟩
end Go.Proofs.YteblahoijolegaaGreatDoor
end
