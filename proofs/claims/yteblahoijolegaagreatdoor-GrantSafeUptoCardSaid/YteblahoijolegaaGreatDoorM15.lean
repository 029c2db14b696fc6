import Derived.Test.YteblahoijolegaaGreatDoorM14
import Derived.BigQuiet
import Derived.BigRegion
import Derived.ChangeAlike
import Derived.Deep.DeepCutAuto
import Derived.Deep.Light
import Derived.Deep.LoopGhost
import Derived.Deep.MidRow
import Derived.Deep.QuietTactic
import Derived.Deep.RegionHeld3
import Derived.Deep.WholeRow
import Derived.Defers
import Derived.Great.Walk
import Derived.Laws.BitsAllLaws
import Derived.Laws.CopyOwn
import Derived.Laws.EntriesVeiled
import Derived.Laws.LoneSync
import Derived.Laws.Pointers
import Derived.Laws.StructEq
import Derived.Lib.Hide
import Derived.Lib.LazyBuf
import Derived.Lib.SliceRun
import Derived.LoopIn
import Derived.LoopNIn
import Derived.Maps.AppendAt
import Derived.OwnWalkIn
import Derived.RangeFuncBox
import Derived.RangeFuncKeeps
import Derived.RangeFuncLeaves
import Derived.RangeFuncSeq
import Derived.RegionCalls
import Derived.RegionIn
import Derived.RegionTactic
import Derived.Shelf.Abstract
import Derived.TacticsInMore
import Derived.Test.YteblahoijolegaaGreatDoorShelf
import Derived.WalkKit
import Derived.WalkLawsBesides
import Derived.WalkSpells
import Derived.WideLaws
import Derived.Test.YteblahoijolegaaGreatDoorM13
section
set_option linter.all false
namespace Go.Proofs.YteblahoijolegaaGreatDoor
open Go.RowKit

/-- the first index at which a step with a state says yes; the state behind it -/
def scanI {S : Type} (step : Nat → S → Bool × S) : Nat → Nat → S → Int × S
  | 0, _, s => (-1, s)
  | r + 1, k, s => if (step k s).1 then ((k : Int), (step k s).2) else scanI step r (k + 1) (step k s).2
set_option maxHeartbeats 1000000 in
theorem indexFuncS {S : Type} (ao : Option Addr) (n cp : Nat) (hn : n ≤ 100000) (c : Nat → Nat → Value) (I : Nat → S → World → Prop) (keep : Nat → Prop) (step : Nat → S → Bool × S) (g : Nat) (lb : Array Value) (eg : ∀ args w, (callFunc g args).run Tryz.prog w = .ok (.enter g args) w) (w : World)
    (hs : SlAt w ao n 2 c) (hka : ∀ a, ao = some a → keep a.block) (s0 : S) (h0 : I 0 s0 w)
    (hp : ∀ i, i < n → ∀ s W, Kept keep w W → I i s W → Calls Tryz.prog g (#[.agg #[c i 0, c i 1]] ++ lb) W fun e W' => e = .returned (.bool (step i s).1) ∧ I (i + 1) (step i s).2 W' ∧ Kept keep W W') :
    Calls Tryz.prog 148 #[.slice ao n cp, .func (.func g) #[] lb] w fun e w' => e = .returned (.int .i64 (scanI step n 0 s0).1) ∧ (∃ k, k ≤ n ∧ I k (scanI step n 0 s0).2 w') ∧ Kept keep w w' := by
  have HP := Lib.hid hp; clear hp
  have HA := Lib.hid hka; clear hka
  have H0 := Lib.hid h0; clear h0
  go_enter Tryz.func148, Tryz.ntmps148
  go_wp2_with fail
  go_loopg [8] n (fun r s8 wr => ∃ i : Nat, ∃ s : S, i ≤ n ∧ r = n - i ∧ s8 = .int .i64 i ∧ scanI step r i s = scanI step n 0 s0 ∧ I i s wr ∧ Kept keep w wr)
  case atStart => exact ⟨0, s0, by omega, rfl, rfl, rfl, H0.out, Kept.refl _ _⟩
  case round =>
    obtain ⟨i, s, hi, rfl, rfl, he, hI, hb⟩ := hrel
    by_cases hlt : i < n
    · rcases hs.keptK hb (fun _ => HA.out) with h0 | ⟨a, off, rfl, hcs⟩
      · omega
      have hpi := HP.out i hlt s wr hb hI
      obtain ⟨r, hr⟩ : ∃ r, n - i = r + 1 := ⟨n - i - 1, by omega⟩
      rw [hr, scanI] at he
      have HE := Lib.hid he; clear he
      have HR := Lib.hid hr; clear hr
      have hlt2 : (i : Int) < n := by omega
      have d0 := hcs i hlt 0 (by omega); have d1 := hcs i hlt 1 (by omega); simp only [Nat.add_zero] at d0
      clear hcs hI
      generalize hq : step i s = q at hpi HE
      obtain ⟨qb, qs⟩ := q
      dsimp only at hpi HE
      clear hq
      go_wp2_with fail
      refine hpi.mono ?_
      rintro e W1 ⟨rfl, hI1, hb1⟩
      have HI1 := Lib.hid hI1; clear hI1
      cases qb
      · go_wp2_with fail
        go_roundg r
        case measure => have := HR.out; omega
        case rel => exact ⟨i + 1, qs, by omega, by have := HR.out; omega, by go_num, by simpa using HE.out, HI1.out, hb.trans hb1⟩
      · go_wp2_with fail
        go_ret
        exact ⟨by rw [← HE.out]; rfl, ⟨i + 1, by omega, by rw [← HE.out]; exact HI1.out⟩, hb.trans hb1⟩
    · obtain rfl : i = n := by omega
      have HI := Lib.hid hI; clear hI
      go_wp2
      go_ret
      rw [Nat.sub_self] at he
      exact ⟨by rw [← he]; rfl, ⟨i, by omega, by rw [← he]; exact HI.out⟩, hb⟩
theorem containsFuncS {S : Type} (ao : Option Addr) (n cp : Nat) (hn : n ≤ 100000) (c : Nat → Nat → Value) (I : Nat → S → World → Prop) (keep : Nat → Prop) (step : Nat → S → Bool × S) (g : Nat) (lb : Array Value) (eg : ∀ args w, (callFunc g args).run Tryz.prog w = .ok (.enter g args) w) (w : World)
    (hs : SlAt w ao n 2 c) (hka : ∀ a, ao = some a → keep a.block) (s0 : S) (h0 : I 0 s0 w)
    (hp : ∀ i, i < n → ∀ s W, Kept keep w W → I i s W → Calls Tryz.prog g (#[.agg #[c i 0, c i 1]] ++ lb) W fun e W' => e = .returned (.bool (step i s).1) ∧ I (i + 1) (step i s).2 W' ∧ Kept keep W W') :
    Calls Tryz.prog 87 #[.slice ao n cp, .func (.func g) #[] lb] w fun e w' => e = .returned (.bool (decide (0 ≤ (scanI step n 0 s0).1))) ∧ (∃ k, k ≤ n ∧ I k (scanI step n 0 s0).2 w') ∧ Kept keep w w' := by
  have hI := indexFuncS ao n cp hn c I keep step g lb eg w hs hka s0 h0 hp
  generalize scanI step n 0 s0 = r at hI ⊢
  obtain ⟨r, s⟩ := r
  dsimp only at hI ⊢
  clear hp h0
  go_enter Tryz.func87, Tryz.ntmps87
  go_wp2_with fail
  refine hI.mono ?_
  rintro e w1 ⟨rfl, hI1, hb⟩
  have HI1 := Lib.hid hI1; clear hI1
  by_cases hr : 0 ≤ r
  · go_wp2_with fail
    go_ret
    exact ⟨by simp [hr], HI1.out, hb⟩
  · go_wp2_with fail
    go_ret
    exact ⟨by simp [hr], HI1.out, hb⟩

/-- how often each of the eight was seen -/
def upS (s : Nat → Nat) (v : Nat) : Nat → Nat := fun k => if k = v then s k + 1 else s k
def comesF (g : Nat → Nat × Nat) (i c0 : Nat) : Nat → Nat → (Nat → Nat) → Bool × (Nat → Nat)
  | 0, _, s => (false, s)
  | f + 1, v, s => if v = c0 then (true, s) else if 1 < upS s v v then (false, upS s v) else
    (decide (0 ≤ (scanI (fun k s => if (g k).1 = v then comesF g i c0 f (g k).2 s else (false, s)) i 0 (upS s v)).1),
      (scanI (fun k s => if (g k).1 = v then comesF g i c0 f (g k).2 s else (false, s)) i 0 (upS s v)).2)
def zS (x : Nat) : Nat := if x = 0 then 1 else 0
def unS (s : Nat → Nat) : Nat := zS (s 0) + zS (s 1) + zS (s 2) + zS (s 3) + zS (s 4) + zS (s 5)
theorem unS_up0 {s : Nat → Nat} {v : Nat} (hv : v < 6) (h : s v = 0) : unS (upS s v) + 1 = unS s := by
  rcases (by omega : v = 0 ∨ v = 1 ∨ v = 2 ∨ v = 3 ∨ v = 4 ∨ v = 5) with rfl | rfl | rfl | rfl | rfl | rfl <;> simp [unS, upS, h, zS] <;> omega
theorem unS_up1 {s : Nat → Nat} {v : Nat} (h : s v ≠ 0) : unS (upS s v) = unS s := by
  have : ∀ k, zS (upS s v k) = zS (s k) := by
    intro k
    unfold zS upS
    by_cases hk : k = v
    · subst hk; simp [h]
    · simp [hk]
  simp [unS, this]
/-- the bound: no count is great -/
def BndS (B i : Nat) (s : Nat → Nat) : Prop := ∀ k, s k + i * unS s ≤ B
theorem BndS.up {B i : Nat} {s : Nat → Nat} {v : Nat} (hv : v < 6) (h : BndS B i s) : BndS (B + 1) i (upS s v) := by
  intro k
  have h1 := h k
  have h2 : unS (upS s v) ≤ unS s := by
    by_cases h0 : s v = 0
    · have := unS_up0 hv h0; omega
    · rw [unS_up1 h0]; exact Nat.le_refl _
  have h3 : i * unS (upS s v) ≤ i * unS s := Nat.mul_le_mul_left _ h2
  have h4 : upS s v k ≤ s k + 1 := by unfold upS; split <;> omega
  omega
theorem BndS.up0 {B i : Nat} {s : Nat → Nat} {v : Nat} (hv : v < 6) (h0 : s v = 0) (h : BndS B i s) : BndS (B + 1 - i) i (upS s v) := by
  intro k
  have h1 := h k
  have h2 := unS_up0 hv h0
  have h3 : i * unS s = i * unS (upS s v) + i := by rw [← h2, Nat.mul_add, Nat.mul_one]
  have h4 : upS s v k ≤ s k + 1 := by unfold upS; split <;> omega
  omega
theorem BndS.mono {B B' i : Nat} {s : Nat → Nat} (h : BndS B i s) (hb : B ≤ B') : BndS B' i s := fun k => Nat.le_trans (h k) hb
end Go.Proofs.YteblahoijolegaaGreatDoor
end
section
set_option linter.all false
namespace Go.Proofs.YteblahoijolegaaGreatDoor
open Go.RowKit

theorem slAt_take {w : World} {ao : Option Addr} {n i K : Nat} {c : Nat → Nat → Value} (h : SlAt w ao n K c) (hi : i ≤ n) : SlAt w ao i K c := by
  rcases h with h | ⟨a, off, h1, h2⟩
  · exact .inl (by omega)
  · exact .inr ⟨a, off, h1, fun k hk j hj => h2 k (by omega) j hj⟩
def alwE (dup : Bool) (s : ByteArray) : Int := if patternS s != 0 then 60 else if dup then 31 else 0
set_option maxHeartbeats 1000000 in
theorem judge_allow {w : World} {bj bp a off n cp : Nat} {ks : Nat → ByteArray} (hJ : Cells w [(bj, 0, .pointer (some ⟨bp, 0, none⟩)), (bp, 8, .slice (some ⟨a, off, none⟩) n cp)])
    (hs : SlAt w (some ⟨a, off, none⟩) n 1 (fun i _ => .string (ks i))) (hn : n ≤ 100000) (hcp : n ≤ cp) (i : Nat) (hi : i < n) (s : ByteArray) (hsz : s.size ≤ 9223372036854775807) :
    Calls Tryz.prog 61 #[.pointer (some ⟨bj, 0, none⟩), .int .i64 i, .string s] w fun e w' => e = .returned (.int .i64 (alwE (anyx (fun k => s.toList == (ks k).toList) i) s)) ∧ Below w.heap.size w w' := by
  have hp := host_Pattern s w hsz
  have hi2 : (i : Int) ≤ n := by omega
  have hi3 : (i : Int) ≤ cp := by omega
  have hn3 : (n : Int) ≤ cp := by omega
  have hi0 : (0 : Int) ≤ i := by omega
  have HCt := Lib.hid (show ∀ W, Below w.heap.size w W → _ from fun W (hW : Below w.heap.size w W) => contains_string (some ⟨a, off, none⟩) i cp (by omega) ks s W (slAt_take (hs.below hW) (by omega)))
  have HJ := Lib.hid hJ; clear hJ hs
  cases e1 : (patternS s != 0)
  · have E1 := Lib.hid e1
    generalize patternS s = pv at hp e1
    go_enter Tryz.func61, Tryz.ntmps61
    go_wp2_with fail
    refine hp.mono ?_; rintro e w1 ⟨rfl, hb1⟩
    have hc := HJ.out.below hb1
    have x0 := hc.head; have x1 := hc.tail.head
    clear hc
    go_wp2_with fail
    refine (HCt.out w1 hb1).mono ?_; rintro e w2 ⟨rfl, hb2⟩
    have hb3 := hb1.trans (hb2.mono hb1.size)
    have HR := Lib.hid (show ∀ b, anyx (fun k => s.toList == (ks k).toList) i = b → alwE (anyx (fun k => s.toList == (ks k).toList) i) s = if b then 31 else 0 from fun b hb => by rw [alwE, E1.out, hb]; rfl)
    cases e2 : anyx (fun k => s.toList == (ks k).toList) i
    · go_wp2_with fail
      go_ret
      exact ⟨by rw [HR.out _ e2]; rfl, hb3⟩
    · go_wp2_with fail
      go_ret
      exact ⟨by rw [HR.out _ e2]; rfl, hb3⟩
  · have E1 := Lib.hid e1
    generalize patternS s = pv at hp e1
    go_enter Tryz.func61, Tryz.ntmps61
    go_wp2_with fail
    refine hp.mono ?_; rintro e w1 ⟨rfl, hb1⟩
    go_wp2_with fail
    go_ret
    exact ⟨by rw [alwE, E1.out]; rfl, hb1⟩

/-- routes: the key is the route without its weight -/
theorem key_route (h p : ByteArray) (x y : Int) : KeyC 118 (.agg #[.string h, .string p, .int .i64 x, .int .i64 y]) (.agg #[.string h, .string p, .int .i64 x, .int .i64 0]) := by
  intro W
  have hb : Below W.heap.size W (W.alloc (.cells #[.string h, .string p, .int .i64 x, .int .i64 y] 130)) := (Below.refl _ W).alloc (Nat.le_refl _) _
  have hb2 := hb.alloc (o := .cells #[.string h, .string p, .int .i64 x, .int .i64 0] 130) hb.size
  have hg := heap_new (W.alloc (.cells #[.string h, .string p, .int .i64 x, .int .i64 y] 130)) (.cells #[.string h, .string p, .int .i64 x, .int .i64 0] 130)
  rw [World.size_alloc] at hg
  have HG := Lib.hid hg; clear hg
  have hi : (Tryz.prog.info? 130).map (·.size) = some 4 := by kernel_rfl
  have HI := Lib.hid hi; clear hi
  go_enter Tryz.func118, Tryz.ntmps118
  go_wp2
  refine bodyPost_ret (results_cell_row rfl _ _ _ _ _ _ _ rfl HG.out Tryz.underlying130 rfl HI.out) rfl ?_
  exact ⟨rfl, hb2⟩
theorem route2 {w : World} {br : Nat} (h : ByteArray) (v : Value) (s : ByteArray) (hc : w.cell? ⟨br, 0, none⟩ = some (.string h)) : Calls Tryz.prog 120 #[.agg #[.string s, v], .pointer (some ⟨br, 0, none⟩)] w fun e w' => e = .returned (.bool (sameS s h)) ∧ Below w.heap.size w w' := by
  have hb : Below w.heap.size w (w.alloc (.cells #[.string s, v] 100)) := (Below.refl _ w).alloc (Nat.le_refl _) _
  have hc2 := (hb.cell (p := ⟨br, 0, none⟩) (cell_lt hc)).trans hc
  go_enter Tryz.func120, Tryz.ntmps120
  go_wp2
  go_ret
  exact ⟨rfl, hb⟩
def rteKey (r : ByteArray × ByteArray × Int) : Value := .agg #[.string r.1, .string r.2.1, .int .i64 r.2.2, .int .i64 0]
def sameR (a b : ByteArray × ByteArray × Int) : Bool := sameS a.1 b.1 && (sameS a.2.1 b.2.1 && a.2.2 == b.2.2)
theorem run_eq_route (d : Nat) (h p h' p' : ByteArray) (x y x' y' : Int) (w : World) : (Op.equalIn (d + 2) 130 (.agg #[.string h, .string p, .int .i64 x, .int .i64 y]) (.agg #[.string h', .string p', .int .i64 x', .int .i64 y'])).run Tryz.prog w = .ok (h.toList == h'.toList && (p.toList == p'.toList && (x == x' && y == y'))) w := by
  rw [run_equalIn_struct w (d + 1) _ _ _ (by kernel_rfl) (by kernel_rfl)]
  have hs : ∀ (a b : ByteArray) (w : World), (Op.equalIn (d + 1) 9 (.string a) (.string b)).run Tryz.prog w = .ok (a.toList == b.toList) w := fun a b w => run_equalIn_string w d _ a b Tryz.underlying9
  have hi : ∀ (a b : Int) (w : World), (Op.equalIn (d + 1) 3 (.int .i64 a) (.int .i64 b)).run Tryz.prog w = .ok (a == b) w := fun a b w => run_equalIn_int w d _ .i64 .i64 a b Tryz.underlying3
  have a1 : ∀ w, (isAgg 9).run Tryz.prog w = .ok false w := Tryz.isAgg9
  have a2 : ∀ w, (isAgg 3).run Tryz.prog w = .ok false w := Tryz.isAgg3
  simp only [Program.fieldsOf, Tryz.underlying130]
  simp only [Op.eqFields, part, Sem.run_bind, a1, a2, hs, hi]
  simp [a1, a2, hs, hi]
  by_cases h1 : h.toList = h'.toList <;> by_cases h2 : p.toList = p'.toList <;> by_cases h3 : x = x' <;> by_cases h4 : y = y' <;> simp [*]
set_option maxHeartbeats 2000000 in
set_option maxRecDepth 20000 in
theorem twice1_route (a off n cp : Nat) (c : Nat → Nat → Value) (ks : Nat → ByteArray × ByteArray × Int) (g : Nat) (eg : ∀ args w, (callFunc g args).run Tryz.prog w = .ok (.enter g args) w) (w : World) (k i : Nat) (hi : i < n) (hn : n ≤ 100000)
    (hs : SlAt w (some ⟨a, off, none⟩) n 4 c) (hk1 : KeyC g (.agg #[c k 0, c k 1, c k 2, c k 3]) (rteKey (ks k))) (hk2 : KeyC g (.agg #[c i 0, c i 1, c i 2, c i 3]) (rteKey (ks i))) (bk bl bi : Nat)
    (q1 : w.cell? ⟨bk, 0, none⟩ = some (.func (.func g) #[] #[])) (q2 : w.cell? ⟨bl, 0, none⟩ = some (.slice (some ⟨a, off, none⟩) n cp)) (q3 : w.cell? ⟨bi, 0, none⟩ = some (.int .i64 i)) :
    Calls Tryz.prog 178 #[.agg #[c k 0, c k 1, c k 2, c k 3], .pointer (some ⟨bk, 0, none⟩), .pointer (some ⟨bl, 0, none⟩), .pointer (some ⟨bi, 0, none⟩)] w fun e w' => e = .returned (.bool (sameR (ks k) (ks i))) ∧ Below w.heap.size w w' := by
  have hi2 : (i : Int) < n := by omega
  obtain ⟨w0, hw0⟩ : ∃ w0 : World, w0 = w.alloc (.cells #[c k 0, c k 1, c k 2, c k 3] 130) := ⟨_, rfl⟩
  have hb0 : Below w.heap.size w w0 := by rw [hw0]; (repeat first | exact Below.refl _ _ | assumption | refine Below.alloc ?_ (by simp; try omega) _ | refine Below.drew ?_ | refine Below.drewN ?_ _ | refine Below.setCell ?_ (by simp; try omega) _ | refine Below.trans ?_ (Below.mono (by assumption) (by simp; try omega)))
  have hn0 : w0.heap[w.heap.size]? = some (.cells #[c k 0, c k 1, c k 2, c k 3] 130) := by rw [hw0]; exact heap_new w _
  have hlt : w.heap.size < w0.heap.size := (Array.getElem?_eq_some_iff.1 hn0).1
  obtain ⟨a', off', hao, hcs⟩ : ∃ a' off', some (⟨a, off, none⟩ : Addr) = some ⟨a', off', none⟩ ∧ ∀ i, i < n → ∀ j, j < 4 → w.cell? ⟨a', off' + i * 4 + j, none⟩ = some (c i j) := by
    rcases hs with h | h
    · omega
    · exact h
  cases hao
  have d0 := hcs i hi 0 (by omega); have d1 := hcs i hi 1 (by omega); have d2 := hcs i hi 2 (by omega); have d3 := hcs i hi 3 (by omega); simp only [Nat.add_zero] at d0
  clear hcs
  have l1 := (hb0.cell (p := ⟨bk, 0, none⟩) (cell_lt q1)).trans q1
  have l2 := (hb0.cell (p := ⟨bl, 0, none⟩) (cell_lt q2)).trans q2
  have l3 := (hb0.cell (p := ⟨bi, 0, none⟩) (cell_lt q3)).trans q3
  have e0 := cell_of (o := 0) hn0; have e1 := cell_of (o := 1) hn0; have e2 := cell_of (o := 2) hn0; have e3 := cell_of (o := 3) hn0; have f0 := (hb0.cell (cell_lt d0)).trans d0; have f1 := (hb0.cell (cell_lt d1)).trans d1; have f2 := (hb0.cell (cell_lt d2)).trans d2; have f3 := (hb0.cell (cell_lt d3)).trans d3; clear d0 d1 d2 d3
  have hai : 0 ≤ (i : Int) := by omega
  have HK1 := Lib.hid (show KeyC g (.agg #[c k 0, c k 1, c k 2, c k 3]) (.agg #[.string (ks k).1, .string (ks k).2.1, .int .i64 (ks k).2.2, .int .i64 0]) from hk1); clear hk1
  have HK2 := Lib.hid (show KeyC g (.agg #[c i 0, c i 1, c i 2, c i 3]) (.agg #[.string (ks i).1, .string (ks i).2.1, .int .i64 (ks i).2.2, .int .i64 0]) from hk2); clear hk2
  have heq := fun w => run_eq_route 9998 (ks k).1 (ks k).2.1 (ks i).1 (ks i).2.1 (ks k).2.2 0 (ks i).2.2 0 w
  have HW := Lib.hid hw0; clear hw0
  clear hs hn0 q1 q2 q3
  go_enter Tryz.func178, Tryz.ntmps178
  go_wp2_with fail
  rw [← HW.out]
  have tok0 : True := trivial
  go_region_held3 (fun w' => w'.cell? ⟨bk, 0, none⟩ = some (.func (.func g) #[] #[]) ∧ w'.cell? ⟨bl, 0, none⟩ = some (.slice (some ⟨a, off, none⟩) n cp) ∧ w'.cell? ⟨bi, 0, none⟩ = some (.int .i64 i) ∧ w'.cell? ⟨w.heap.size, 0, none⟩ = some (c k 0) ∧ w'.cell? ⟨w.heap.size, 1, none⟩ = some (c k 1) ∧ w'.cell? ⟨w.heap.size, 2, none⟩ = some (c k 2) ∧ w'.cell? ⟨w.heap.size, 3, none⟩ = some (c k 3) ∧ w'.cell? ⟨a, off + i * 4, none⟩ = some (c i 0) ∧ w'.cell? ⟨a, off + i * 4 + 1, none⟩ = some (c i 1) ∧ w'.cell? ⟨a, off + i * 4 + 2, none⟩ = some (c i 2) ∧ w'.cell? ⟨a, off + i * 4 + 3, none⟩ = some (c i 3))
        (first | exact ⟨l1, l2, l3, e0, e1, e2, e3, f0, f1, f2, f3⟩ | (go_split_ands; (repeat' apply And.intro) <;> first | assumption | exact (hbB.cell (cell_lt (by assumption))).trans (by assumption) | exact (hbA.cell (cell_lt (by assumption))).trans (by assumption)))
        (first
          | (have _t := tok0; refine (HK1.out _).mono ?_; rintro e w1 ⟨rfl, hbA⟩; clear tok0; have tok1 : True := trivial)
          | (have _t := tok1; refine (HK2.out _).mono ?_; rintro e w2 ⟨rfl, hbB⟩))
  all_goals
    have hb1 : Below w.heap.size w w1 := hb0.trans (((Below.refl w0.heap.size w0).drew.trans hbA).mono hb0.size)
    have hb2 : Below w.heap.size w w2 := hb1.trans (hbB.mono hb1.size)
    go_wp2_with fail
    go_ret
    exact ⟨rfl, hb2⟩
theorem slAt_take_route {w : World} {ao : Option Addr} {n i : Nat} {c : Nat → Nat → Value} (h : SlAt w ao n 4 c) (hi : i < n) : SlAt w ao i 4 c := by
  rcases h with h | ⟨a, off, h1, h2⟩
  · omega
  · exact .inr ⟨a, off, h1, fun k hk j hj => h2 k (by omega) j hj⟩
set_option maxHeartbeats 1000000 in
theorem twice_route (a off n cp : Nat) (c : Nat → Nat → Value) (ks : Nat → ByteArray × ByteArray × Int) (g : Nat) (eg : ∀ args w, (callFunc g args).run Tryz.prog w = .ok (.enter g args) w) (w : World) (i : Nat) (hi : i < n) (hn : n ≤ 100000) (hcp : n ≤ cp)
    (hs : SlAt w (some ⟨a, off, none⟩) n 4 c) (hk : ∀ k, k < n → KeyC g (.agg #[c k 0, c k 1, c k 2, c k 3]) (rteKey (ks k))) :
    Calls Tryz.prog 123 #[.slice (some ⟨a, off, none⟩) n cp, .int .i64 i, .func (.func g) #[] #[]] w fun e w' => e = .returned (.bool (anyx (fun k => sameR (ks k) (ks i)) i)) ∧ Below w.heap.size w w' := by
  obtain ⟨w0, hw0⟩ : ∃ w0 : World, w0 = ((w.alloc (.cells #[.slice (some ⟨a, off, none⟩) n cp] 27)).alloc (.cells #[.int .i64 i] 3)).alloc (.cells #[.func (.func g) #[] #[]] 207) := ⟨_, rfl⟩
  have hb0 : Below w.heap.size w w0 := by rw [hw0]; (repeat first | exact Below.refl _ _ | assumption | refine Below.alloc ?_ (by simp; try omega) _ | refine Below.drew ?_ | refine Below.drewN ?_ _ | refine Below.setCell ?_ (by simp; try omega) _ | refine Below.trans ?_ (Below.mono (by assumption) (by simp; try omega)))
  have g1 : w0.heap[w.heap.size]? = some (.cells #[.slice (some ⟨a, off, none⟩) n cp] 27) := by rw [hw0]; (simp only [heap_drew, heap_allocs, World.size_alloc, if_true] <;> repeat (first | rw [if_pos (by omega)] | rw [if_neg (by omega)]))
  have g2 : w0.heap[w.heap.size + 1]? = some (.cells #[.int .i64 i] 3) := by rw [hw0]; (simp only [heap_drew, heap_allocs, World.size_alloc, if_true] <;> repeat (first | rw [if_pos (by omega)] | rw [if_neg (by omega)]))
  have g3 : w0.heap[w.heap.size + 2]? = some (.cells #[.func (.func g) #[] #[]] 207) := by rw [hw0]; (simp only [heap_drew, heap_allocs, World.size_alloc, if_true] <;> repeat (first | rw [if_pos (by omega)] | rw [if_neg (by omega)]))
  have q1 := cell_of (o := 0) g1
  have q2 := cell_of (o := 0) g2
  have q3 := cell_of (o := 0) g3
  have hs0 := hs.below hb0
  have hcf := containsFunc_route (some ⟨a, off, none⟩) i cp (by omega) c (fun k => sameR (ks k) (ks i)) 178 #[.pointer (some ⟨w.heap.size + 2, 0, none⟩), .pointer (some ⟨w.heap.size, 0, none⟩), .pointer (some ⟨w.heap.size + 1, 0, none⟩)]
    (enters_of Tryz.func178 (by kernel_rfl) rfl) w0 (slAt_take_route hs0 hi) (fun k hk2 W hW => by
      refine twice1_route a off n cp c ks g eg W k i hi hn (hs0.below hW) (hk k (by omega)) (hk i hi) (w.heap.size + 2) w.heap.size (w.heap.size + 1) ?_ ?_ ?_
      · exact (hW.cell (p := ⟨w.heap.size + 2, 0, none⟩) (cell_lt q3)).trans q3
      · exact (hW.cell (p := ⟨w.heap.size, 0, none⟩) (cell_lt q1)).trans q1
      · exact (hW.cell (p := ⟨w.heap.size + 1, 0, none⟩) (cell_lt q2)).trans q2)
  have HCF := Lib.hid hcf; clear hcf
  have HW := Lib.hid hw0; clear hw0
  have hi2 : (i : Int) ≤ n := by omega
  have hi3 : (i : Int) ≤ cp := by omega
  have hn3 : (n : Int) ≤ cp := by omega
  have hi0 : (0 : Int) ≤ i := by omega
  clear hs hs0 hk g1 g2 g3
  go_enter Tryz.func123, Tryz.ntmps123
  go_wp2_with fail
  rw [← HW.out]
  refine HCF.out.mono ?_
  rintro e w1 ⟨rfl, hb1⟩
  have hb2 := hb0.trans (hb1.mono hb0.size)
  go_wp2_with fail
  go_ret
  exact ⟨rfl, hb2⟩
end Go.Proofs.YteblahoijolegaaGreatDoor
end
