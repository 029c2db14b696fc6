import Derived.Test.YteblahoijolegaaGreatDoorM08
import Derived.BigQuiet
import Derived.BigRegion
import Derived.ChangeAlike
import Derived.Deep.DeepCutAuto
import Derived.Deep.Light
import Derived.Deep.LoopGhost
import Derived.Deep.MidRow
import Derived.Deep.QuietTactic
import Derived.Deep.RegionHeld3
import Derived.Deep.WholeRow
import Derived.Defers
import Derived.Great.Walk
import Derived.Laws.BitsAllLaws
import Derived.Laws.CopyOwn
import Derived.Laws.EntriesVeiled
import Derived.Laws.LoneSync
import Derived.Laws.Pointers
import Derived.Laws.StructEq
import Derived.Lib.Hide
import Derived.Lib.LazyBuf
import Derived.Lib.SliceRun
import Derived.LoopIn
import Derived.LoopNIn
import Derived.Maps.AppendAt
import Derived.OwnWalkIn
import Derived.RangeFuncBox
import Derived.RangeFuncKeeps
import Derived.RangeFuncLeaves
import Derived.RangeFuncSeq
import Derived.RegionCalls
import Derived.RegionIn
import Derived.RegionTactic
import Derived.Shelf.Abstract
import Derived.TacticsInMore
import Derived.Test.YteblahoijolegaaGreatDoorShelf
import Derived.WalkKit
import Derived.WalkLawsBesides
import Derived.WalkSpells
import Derived.WideLaws
section
set_option linter.all false
namespace Go.Proofs.YteblahoijolegaaGreatDoor
open Go.RowKit

theorem wp_range2 {α : Type} {P : Program} {g : Operand} {ps : Array Tmp} {assign body : Code} {Q : Exit → Act → World → Prop} {a : Act} {w : World}
    {gf : Nat} {lb : Array Value} (hg : a.eval g = .func (.func gf) #[] lb) (eg : ∀ args w, (callFunc gf args).run P w = .ok (.enter gf args) w)
    {encs : α → Array Value} {xs : List α} {own priv : Nat → Prop} (hc : IterC P gf lb encs xs own priv w) (hps : ∀ x, (encs x).size = ps.size)
    (hpw : ∀ k, priv k → k < w.heap.size) (how : ∀ k, own k → priv k)
    (I : List α → World → Prop) (hI : ∀ pre A B, I pre A → (∃ r, A.heap[w.heap.size + 1]? = some (.loop r)) → Kept (fun k => ¬ own k ∧ k ≠ w.heap.size + 1) A B → I pre B) (h0 : ∀ W1, Kept (fun _ => True) w W1 → w.heap.size + 2 ≤ W1.heap.size → I [] W1) (A1 : List α → α → Act → World → Prop)
    (hA1 : ∀ pre x a1 A B, A1 pre x a1 A → Kept (fun k => k ≠ w.heap.size + 1) A B → A1 pre x a1 B)
    (hassign : ∀ (l : Nat) (pre : List α) (x : α) (W : World) (K : Act → World → Prop), pre ++ [x] <+: xs → I pre W → w.heap.size + 2 ≤ W.heap.size →
      (∀ a1 W1, A1 pre x a1 W1 → Kept (fun k => priv k ∨ k = w.heap.size ∨ k = w.heap.size + 1) W W1 → K a1 W1) →
      assign.wpIn (Fence.wide.inRound l) 0 P (Exit.then K (fun _ _ _ => False)) { tmps := (ps.zip (encs x)).foldl (fun t (p, v) => t.setIfInBounds p v) a.tmps, defers := [] } W)
    (hbody : ∀ (l : Nat) (pre : List α) (x : α) (a1 : Act) (W : World), pre ++ [x] <+: xs → A1 pre x a1 W → w.heap.size + 2 ≤ W.heap.size →
      body.wpIn (Fence.wide.inRound l) 0 P (fun e _ W' => e = .normal ∧ I (pre ++ [x]) W' ∧ Kept (fun k => priv k ∨ k = w.heap.size ∨ k = w.heap.size + 1) W W') a1 W)
    (hdone : ∀ (D : Nat) (W : World), w.heap.size = D → I xs W → W.heap[D]? = some (.deferred (some [])) → D + 2 ≤ W.heap.size → Q .normal { a with defers := { target := .collected D, args := #[] } :: a.defers } W) :
    (Code.rangeFunc g ps assign body).wpIn Fence.wide 0 P Q a w := by
  refine wpIn_rangeFunc ?_
  intro fn hfn
  obtain ⟨rec, hrec⟩ : ∃ rec : LoopState → Option Code → Loop, rec = fun st pe => { state := st, pending := pe, fn, tmps := a.tmps, params := ps, assign, body, defers := w.heap.size } := ⟨_, rfl⟩
  obtain ⟨W1, hW1⟩ : ∃ W1, (w.alloc (.deferred (some []))).alloc (.loop (rec .ready none)) = W1 := ⟨_, rfl⟩
  have hL1 : W1.heap[w.heap.size + 1]? = some (.loop (rec .ready none)) := by
    rw [← hW1]; have := World.alloc_heap_new (w.alloc (.deferred (some []))) (.loop (rec .ready none)); rwa [World.size_alloc] at this
  have hK1 : W1.heap[w.heap.size]? = some (.deferred (some [])) := by
    rw [← hW1]; exact (Below.heap_alloc _ _ _ (by simp)).trans (World.alloc_heap_new w _)
  have hk1 : ∀ keep, Kept keep w W1 := fun keep => by rw [← hW1]; exact ((Kept.refl _ w).alloc _).alloc _
  have hs1 : w.heap.size + 2 ≤ W1.heap.size := by rw [← hW1]; simp
  have hI1 : I [] W1 := h0 _ (hk1 _) hs1
  refine ⟨w.heap.size + 1, [{ target := .collected w.heap.size, args := #[] }], W1, { target := .fn (.func gf) lb, args := #[.func (.yield (w.heap.size + 1)) #[] #[]] }, W1, gf,
    #[.func (.yield (w.heap.size + 1)) #[] #[]] ++ lb, W1, ?_, ?_, ?_, ?_, fun h => by simp [Fence.wide] at h, ?_⟩
  · rw [← hW1, hrec]; exact run_enterLoop_outer _ _ _ _ _
  · simp only [resolve, hg]
    simp [go_sem]
  · intro f' hf'; trivial
  · simp [invoke, go_sem, eg]
  · have hno : ∀ k, w.heap.size ≤ k → ¬ own k := fun k hk ho => by have := hpw k (how k ho); omega
    refine (hc (w.heap.size + 1)
      (fun pre W => I pre W ∧ W.heap[w.heap.size + 1]? = some (.loop (rec .ready none)) ∧ W.heap[w.heap.size]? = some (.deferred (some [])) ∧ w.heap.size + 2 ≤ W.heap.size)
      W1 (hk1 _)
      (fun pre A B hs hk => ⟨hI pre A B hs.1 ⟨_, hs.2.1⟩ (hk.mono fun k _ h => h.1), (hk.block _ (by have := hs.2.2.2; omega) (hno _ (by omega))).trans hs.2.1, (hk.block _ (by have := hs.2.2.2; omega) (hno _ (by omega))).trans hs.2.2.1, Nat.le_trans hs.2.2.2 hk.size⟩)
      ?_ ⟨hI1, hL1, hK1, hs1⟩).mono ?_
    · rintro pre x W hpx ⟨hi, hl, hk, hsz⟩
      have hlt : w.heap.size + 1 < W.heap.size := by omega
      have hy := run_yield (P := P) (args := encs x) hl (by rw [hrec]; exact hps x)
      rw [hrec] at hy
      refine ⟨fn, _, assign, body, hy, roundIn_of_wpIn hfn (hassign _ pre x W _ hpx hi hsz (fun a1 V hA hkV => ⟨_, run_beginRound ((hkV.block _ hlt (.inr (.inr rfl))).trans hl) (by rw [hrec]), ?_⟩))⟩
      have hszV : w.heap.size + 2 ≤ V.heap.size := Nat.le_trans hsz hkV.size
      have hlV : V.heap[w.heap.size + 1]? = some (.loop (rec .ready none)) := (hkV.block _ hlt (.inr (.inr rfl))).trans hl
      have hkd : V.heap[w.heap.size]? = some (.deferred (some [])) := (hkV.block _ (by omega) (.inr (.inl rfl))).trans hk
      have hlt : w.heap.size + 1 < V.heap.size := by omega
      have hl2 : (V.putObj (w.heap.size + 1) (.loop { rec .ready none with state := .busy })).heap[w.heap.size + 1]? = some (.loop { rec .ready none with state := .busy }) := World.putObj_heap_same hlt
      have hk2 : (V.putObj (w.heap.size + 1) (.loop { rec .ready none with state := .busy })).heap[w.heap.size]? = some (.deferred (some [])) := (World.putObj_heap_other (by omega)).trans hkd
      refine wpIn_mono (hbody _ pre x a1 _ hpx (hA1 _ _ _ _ _ hA ((Kept.refl _ V).putObj (by simp) _)) (by simpa using hszV)) ?_
      rintro e a3 W3 ⟨rfl, hi3, hk3⟩
      have hl3 : W3.heap[w.heap.size + 1]? = some (.loop { rec .ready none with state := .busy }) := (hk3.block _ (by simpa using hlt) (.inr (.inr rfl))).trans hl2
      have hd3 : W3.heap[w.heap.size]? = some (.deferred (some [])) := (hk3.block _ (by simp; omega) (.inr (.inl rfl))).trans hk2
      have hz3 : w.heap.size + 2 ≤ W3.heap.size := by have := hk3.size; simp at this; omega
      have hr := run_endRound (P := P) none hl3
      rw [hrec] at hr hl2 hl3
      refine ⟨_, _, hr, rfl, ⟨hI _ _ _ hi3 ⟨_, hl3⟩ ((Kept.refl _ W3).putObj (by omega) _), ?_, ?_, by simpa using hz3⟩, ?_⟩
      · rw [hrec]; exact World.putObj_heap_same (by omega)
      · exact (World.putObj_heap_other (by omega)).trans hd3
      · have k1 : Kept priv W (V.putObj (w.heap.size + 1) (.loop { rec .ready none with state := .busy })) := (hkV.mono fun k _ h => .inl h).putObj (fun hp => by have := hpw _ hp; omega) _
        exact (k1.trans (hk3.mono fun k _ h => .inl h)).putObj (fun hp => by have := hpw _ hp; omega) _
    · rintro e W2 ⟨⟨v, rfl⟩, hi, hl, hk, hsz⟩
      exact ⟨none, _, by have := run_endLoop (P := P) hl (by rw [hrec]; simp); rw [hrec] at this; exact this, hdone _ _ rfl (hI _ _ _ hi ⟨_, hl⟩ ((Kept.refl _ W2).putObj (by omega) _)) ((World.putObj_heap_other (by omega)).trans hk) (by simpa using hsz)⟩
end Go.Proofs.YteblahoijolegaaGreatDoor
end
section
set_option linter.all false
namespace Go.Proofs.YteblahoijolegaaGreatDoor
open Go.RowKit
attribute [local go_sem] Oper.semAt_some

theorem head_others (a c bn : Nat) (w : World) : Calls Tryz.prog 236 #[.slice (some ⟨a, 0, none⟩) 1 c, .func (.func 237) #[] #[.pointer (some ⟨bn, 0, none⟩)]] w fun e w' => e = .returned (.func (.func 253) #[] #[.pointer (some ⟨w.heap.size, 0, none⟩), .pointer (some ⟨w.heap.size + 1, 0, none⟩)]) ∧
    (w.alloc (.cells #[.slice (some ⟨a, 0, none⟩) 1 c] 250)).alloc (.cells #[.func (.func 237) #[] #[.pointer (some ⟨bn, 0, none⟩)]] 210) = w' := by
  go_enter Tryz.func236, Tryz.ntmps236
  go_wp2
  go_ret
  exact ⟨rfl, rfl⟩
set_option maxHeartbeats 2000000 in
set_option maxRecDepth 20000 in
theorem head_Get_host (a c : Nat) (w : World) (ha : a < w.heap.size) (h0 : w.cell? ⟨a, 0, none⟩ = some (.string hostN)) (h1 : w.cell? ⟨a, 1, none⟩ = some (.string hostX)) :
    Calls Tryz.prog 209 #[.slice (some ⟨a, 0, none⟩) 1 c, .string hostN] w fun e w' => e = .returned (.tuple #[.string hostX, .int .i64 1]) ∧ Below w.heap.size w w' := by
  obtain ⟨w0, hw0⟩ : ∃ w0 : World, w0 = ((w.alloc (.cells #[.string hostN] 9)).alloc (.cells #[.string ⟨#[]⟩] 9)).alloc (.cells #[.int .i64 0] 3) := ⟨_, rfl⟩
  have hs0 : w0.heap.size = w.heap.size + 3 := by rw [hw0]; simp
  have hb0 : Below w.heap.size w w0 := by rw [hw0]; (repeat first | exact Below.refl _ _ | assumption | refine Below.alloc ?_ (by simp; try omega) _ | refine Below.drew ?_ | refine Below.drewN ?_ _ | refine Below.setCell ?_ (by simp; try omega) _ | refine Below.trans ?_ (Below.mono (by assumption) (by simp; try omega)))
  have g1 : w0.heap[w.heap.size]? = some (.cells #[.string hostN] 9) := by rw [hw0]; (simp only [heap_drew, heap_allocs, World.size_alloc, if_true] <;> repeat (first | rw [if_pos (by omega)] | rw [if_neg (by omega)]))
  have g2 : w0.heap[w.heap.size + 1]? = some (.cells #[.string ⟨#[]⟩] 9) := by rw [hw0]; (simp only [heap_drew, heap_allocs, World.size_alloc, if_true] <;> repeat (first | rw [if_pos (by omega)] | rw [if_neg (by omega)]))
  have g3 : w0.heap[w.heap.size + 2]? = some (.cells #[.int .i64 0] 3) := by rw [hw0]; (simp only [heap_drew, heap_allocs, World.size_alloc, if_true] <;> repeat (first | rw [if_pos (by omega)] | rw [if_neg (by omega)]))
  obtain ⟨wR, hwR⟩ : ∃ wR : World, wR = (w0.alloc (.cells #[.slice (some ⟨a, 0, none⟩) 1 c] 250)).alloc (.cells #[.func (.func 237) #[] #[.pointer (some ⟨w.heap.size, 0, none⟩)]] 210) := ⟨_, rfl⟩
  have hsR : wR.heap.size = w.heap.size + 5 := by rw [hwR]; simp [hs0]
  have hbR : Below w.heap.size w wR := by rw [hwR]; exact (hb0.alloc (by omega) _).alloc (by simp; omega) _
  have hkR : Below w0.heap.size w0 wR := by rw [hwR]; (repeat first | exact Below.refl _ _ | assumption | refine Below.alloc ?_ (by simp; try omega) _ | refine Below.drew ?_ | refine Below.drewN ?_ _ | refine Below.setCell ?_ (by simp; try omega) _ | refine Below.trans ?_ (Below.mono (by assumption) (by simp; try omega)))
  have r1 : wR.heap[w.heap.size]? = some (.cells #[.string hostN] 9) := (hkR.block _ (by omega)).trans g1
  have r2 : wR.heap[w.heap.size + 1]? = some (.cells #[.string ⟨#[]⟩] 9) := (hkR.block _ (by omega)).trans g2
  have r3 : wR.heap[w.heap.size + 2]? = some (.cells #[.int .i64 0] 3) := (hkR.block _ (by omega)).trans g3
  have r4 : wR.heap[w.heap.size + 3]? = some (.cells #[.slice (some ⟨a, 0, none⟩) 1 c] 250) := by rw [hwR, ← hs0]; (simp only [heap_drew, heap_allocs, World.size_alloc, if_true] <;> repeat (first | rw [if_pos (by omega)] | rw [if_neg (by omega)]))
  have r5 : wR.heap[w.heap.size + 4]? = some (.cells #[.func (.func 237) #[] #[.pointer (some ⟨w.heap.size, 0, none⟩)]] 210) := by rw [hwR, show w.heap.size + 4 = w0.heap.size + 1 by omega]; (simp only [heap_drew, heap_allocs, World.size_alloc, if_true] <;> repeat (first | rw [if_pos (by omega)] | rw [if_neg (by omega)]))
  have d0 := (hbR.cell (p := ⟨a, 0, none⟩) ha).trans h0
  have d1 := (hbR.cell (p := ⟨a, 1, none⟩) ha).trans h1
  have hit := others1_iter (w.heap.size + 3) (w.heap.size + 4) w.heap.size a c wR r4 r5 r1 d0 d1
  have HW0 := Lib.hid hw0; clear hw0
  have HWR := Lib.hid hwR; clear hwR
  have HS0 := Lib.hid hs0
  have HSR := Lib.hid hsR
  have HIT := Lib.hid hit; clear hit
  have R2 := Lib.hid r2
  have R3 := Lib.hid r3
  clear g1 g2 g3 hs0 hsR r1 r2 r3 r4 r5 h0 h1 d0 d1 hkR
  refine calls_of_marks Tryz.func209 rfl ?_; simp only [Tryz.ntmps209, List.size_toArray, List.length_cons, List.length_nil, Nat.reduceAdd, Nat.reduceSub, Array.replicate_succ, Array.replicate_zero, List.push_toArray, List.append_toArray, List.nil_append, List.cons_append]
  go_wp2_with fail
  rw [← HW0.out]
  refine (head_others a c w.heap.size w0).mono ?_
  rintro e w1 ⟨rfl, rfl⟩
  rw [← HWR.out, HS0.out]
  go_wp2_with fail
  refine (wpIn_wide (n := 0)).1 ?_
  refine' wp_range2 (gf := 253) (lb := #[.pointer (some ⟨w.heap.size + 3, 0, none⟩), .pointer (some ⟨w.heap.size + 4, 0, none⟩)]) rfl (enters_of Tryz.func253 (by kernel_rfl) rfl)
    HIT.out (fun _ => rfl) (fun k hk => by have := HSR.out; rcases hk with rfl | rfl | rfl | rfl <;> omega) (fun k hk => hk.elim)
    (fun pre W => ∃ (sv : ByteArray) (mv : Int), ((pre = [] ∧ sv = ⟨#[]⟩ ∧ mv = 0) ∨ (pre = [()] ∧ sv = hostX ∧ mv = 1)) ∧ W.heap[w.heap.size + 1]? = some (.cells #[.string sv] 9) ∧ W.heap[w.heap.size + 2]? = some (.cells #[.int .i64 mv] 3) ∧ Below w.heap.size w W)
    ?hI ?h0
    (fun pre _ a1 W => ∃ D : Nat, D ≠ w.heap.size + 6 ∧ w.heap.size + 5 ≤ D ∧ W.heap[D]? = some (.cells #[.string hostN, .string hostX] 249) ∧ (pre = [] ∧ W.heap[w.heap.size + 1]? = some (.cells #[.string ⟨#[]⟩] 9) ∧ W.heap[w.heap.size + 2]? = some (.cells #[.int .i64 0] 3) ∧ Below w.heap.size w W) ∧
      a1 = { tmps := #[.slice (some ⟨a, 0, none⟩) 1 c, .string hostN, undef, .pointer (some ⟨w.heap.size, 0, none⟩), .pointer (some ⟨w.heap.size + 1, 0, none⟩), .pointer (some ⟨w.heap.size + 2, 0, none⟩), .pointer (some ⟨D, 0, none⟩), .slice (some ⟨a, 0, none⟩) 1 c,
        .func (.func 237) #[] #[.pointer (some ⟨w.heap.size, 0, none⟩)], .func (.func 253) #[] #[.pointer (some ⟨w.heap.size + 3, 0, none⟩), .pointer (some ⟨w.heap.size + 4, 0, none⟩)], .agg #[.string hostN, .string hostX], undef, undef, undef, undef, undef, undef, undef, undef], defers := [] })
    ?hA1 ?hassign ?hbody ?hdone
  case hI =>
    rintro pre A B ⟨sv, mv, hc, i1, i2, i3⟩ - hk
    have hsR := HSR.out
    have hz := (Array.getElem?_eq_some_iff.1 i2).1
    refine ⟨sv, mv, hc, (hk.block _ (by omega) ⟨fun h => h, by omega⟩).trans i1, (hk.block _ (by omega) ⟨fun h => h, by omega⟩).trans i2, i3.trans (hk.below (by exact i3.size) fun k hk => ⟨fun h => h, by omega⟩)⟩
  case h0 =>
    intro V hV hVs
    have hsR := HSR.out
    have hbV : Below wR.heap.size wR V := hV.below (Nat.le_refl _) (fun _ _ => trivial)
    exact ⟨⟨#[]⟩, 0, .inl ⟨rfl, rfl, rfl⟩, (hbV.block _ (by omega)).trans R2.out, (hbV.block _ (by omega)).trans R3.out, hbR.trans (hbV.mono hbR.size)⟩
  case hA1 =>
    rintro pre x a1 A B ⟨D, n1, n2, e1, ⟨e2, e3, e4, e5⟩, rfl⟩ hk
    have hsR := HSR.out
    have hz := (Array.getElem?_eq_some_iff.1 e1).1
    refine ⟨D, n1, n2, (hk.block _ hz (by omega)).trans e1, ⟨e2, (hk.block _ (by omega) (by omega)).trans e3, (hk.block _ (by omega) (by omega)).trans e4, e5.trans (hk.below e5.size fun k hk => by omega)⟩, rfl⟩
  case hassign =>
    rintro l pre x W K hpx ⟨sv, mv, hc, i1, i2, i3⟩ hsz hK
    have hsR := HSR.out
    have hpre : pre = [] := by
      rcases hc with ⟨h, _⟩ | ⟨h, _⟩
      · exact h
      · subst h; have := hpx.length_le; simp at this
    subst hpre
    obtain ⟨rfl, rfl⟩ : sv = ⟨#[]⟩ ∧ mv = 0 := by
      rcases hc with ⟨_, h2, h3⟩ | ⟨h, _⟩
      · exact ⟨h2, h3⟩
      · simp at h
    have HK := Lib.hid hK; clear hK
    have hbA : Below W.heap.size W (W.alloc (.cells #[.string hostN, .string hostX] 249)) := (Below.refl _ _).alloc (Nat.le_refl _) _
    gi_wp2
    refine HK.out _ _ ⟨W.heap.size, by omega, by omega, heap_new W _, ⟨by first | rfl | trivial, (hbA.block _ (by omega)).trans i1, (hbA.block _ (by omega)).trans i2, i3.alloc i3.size _⟩, rfl⟩ ((Kept.refl _ W).alloc _)
  case hbody =>
    rintro l pre x a1 W hpx ⟨D, n1, n2, e1, ⟨rfl, e3, e4, e5⟩, rfl⟩ hsz
    have hsR := HSR.out
    have c1 := cell_of (o := 0) e3
    have c2 := cell_of (o := 0) e4
    have c3 := cell_of (o := 1) e1
    have f1 := free_of (o := 0) e3
    have f2 := free_of (o := 0) e4
    have f3 := cell_of (o := 0) (heap_set (o := 0) (.int .i64 1) e4)
    have f4 : (W.setCell ⟨w.heap.size + 2, 0, none⟩ (.int .i64 1)).cell? ⟨D, 1, none⟩ = some (.string hostX) := (cell_set_ne (by omega)).trans c3
    have f5 : (W.setCell ⟨w.heap.size + 2, 0, none⟩ (.int .i64 1)).cell? ⟨w.heap.size + 1, 0, none⟩ = some (.string ⟨#[]⟩) := (cell_set_ne (by omega)).trans c1
    have HF := Lib.hid (show ((W.setCell ⟨w.heap.size + 2, 0, none⟩ (.int .i64 1)).setCell ⟨w.heap.size + 1, 0, none⟩ (.string hostX)).heap[w.heap.size + 1]? = some (.cells #[.string hostX] 9) from heap_set (o := 0) _ ((heap_setne _ (by omega)).trans e3))
    have HG := Lib.hid (show ((W.setCell ⟨w.heap.size + 2, 0, none⟩ (.int .i64 1)).setCell ⟨w.heap.size + 1, 0, none⟩ (.string hostX)).heap[w.heap.size + 2]? = some (.cells #[.int .i64 1] 3) from (heap_setne _ (by omega)).trans (heap_set (o := 0) _ e4))
    clear e1 e3 e4
    gi_wp2
    refine ⟨⟨hostX, 1, by first | exact ⟨rfl, rfl⟩ | exact .inr ⟨rfl, rfl, rfl⟩, HF.out, HG.out, (e5.setCell (Nat.le_add_right _ _) _).setCell (Nat.le_add_right _ _) _⟩, ((Kept.refl _ W).setCell (by dsimp only; omega) _).setCell (by dsimp only; omega) _⟩
  case hdone =>
    rintro D W hD ⟨sv, mv, hc, i1, i2, i3⟩ hK1 hz1
    obtain ⟨rfl, rfl⟩ : sv = hostX ∧ mv = 1 := by
      rcases hc with ⟨h, _⟩ | ⟨_, h2, h3⟩
      · simp at h
      · exact ⟨h2, h3⟩
    have c1 := cell_of (o := 0) i1
    have c2 := cell_of (o := 0) i2
    have f1 := free_of (o := 0) i1
    have f2 := free_of (o := 0) i2
    clear hc
    go_wp2_with fail
    go_region_held3 (fun w' => w'.cell? ⟨w.heap.size + 1, 0, none⟩ = some (.string hostX) ∧ w'.cell? ⟨w.heap.size + 2, 0, none⟩ = some (.int .i64 1)) (first | exact ⟨c1, c2⟩ | (go_split_ands; constructor <;> first | assumption | exact World.cell?_setCell_same _ _ _ (by assumption) | exact (cell_set_ne (by omega)).trans (by assumption))) (fail)
    all_goals
      obtain ⟨Wz, hWz⟩ : ∃ Wz : World, Wz = ((W.setCell ⟨w.heap.size + 1, 0, none⟩ (.string hostX)).setCell ⟨w.heap.size + 1 + 1, 0, none⟩ (.int .i64 1)).drew := ⟨_, rfl⟩
      have hsR := HSR.out
      have hf : Wz.heap[D]? = some (.deferred (some [])) := by rw [hWz]; exact (heap_setne _ (by omega)).trans ((heap_setne _ (by omega)).trans hK1)
      have z1 : Wz.heap[w.heap.size + 1]? = some (.cells #[.string hostX] 9) := by rw [hWz]; exact (heap_setne _ (by omega)).trans (heap_set (o := 0) _ i1)
      have z2 : Wz.heap[w.heap.size + 1 + 1]? = some (.cells #[.int .i64 1] 3) := by rw [hWz]; exact heap_set (o := 0) _ ((heap_setne _ (by omega)).trans i2)
      have z3 : Below w.heap.size w Wz := by rw [hWz]; exact ((i3.setCell (Nat.le_add_right _ _) _).setCell (by show w.heap.size ≤ w.heap.size + 1 + 1; omega) _).drew
      have k1 : ∀ o : Obj, (Wz.putObj D o).cell? ⟨w.heap.size + 1, 0, none⟩ = some (.string hostX) := fun o => cell_of (o := 0) ((World.putObj_heap_other (by omega)).trans z1)
      have k2 : ∀ o : Obj, (Wz.putObj D o).cell? ⟨w.heap.size + 1 + 1, 0, none⟩ = some (.int .i64 1) := fun o => cell_of (o := 0) ((World.putObj_heap_other (by omega)).trans z2)
      go_wp2_with fail
      rw [← hWz]
      clear hWz c1 c2 f1 f2 i1 i2 i3
      refine ⟨by simp, .inl ⟨_, _, rfl, run_takeDeferred hf, ⟨.tuple #[.string hostX, .int .i64 1], ?_, rfl, ?_⟩⟩⟩
      · simp [results, Tryz.results209, go_sem, k1, k2]
      · exact ((kall z3).putNew (by omega) _).below (Nat.le_refl _) (fun _ _ => trivial)
end Go.Proofs.YteblahoijolegaaGreatDoor
end
section
set_option linter.all false
namespace Go.Proofs.YteblahoijolegaaGreatDoor
open Go.RowKit

theorem http_method (w : World) : Calls Tryz.prog 202 #[.string ⟨#[71, 69, 84]⟩] w fun e w' => e = .returned (.bool true) ∧ w = w' := by
  go_enter Tryz.func202, Tryz.ntmps202
  go_wp2
  go_ret
  exact ⟨rfl, rfl⟩
def visC (c : UInt8) : Bool := !(decide ((c.toNat : Int) < 33) || decide ((126 : Int) < c.toNat))
def visB (s : ByteArray) : Bool := s.data.toList.all visC
theorem visB_no {s : ByteArray} {j : Nat} (hlt : j < s.size) (h : visC (s[j]'hlt) = false) : visB s = false := by
  cases hb : visB s
  · rfl
  · have := (List.all_eq_true.1 hb) (s.data[j]'hlt) (by simp)
    rw [show s.data[j]'hlt = s[j]'hlt from rfl, h] at this; cases this
set_option maxHeartbeats 1000000 in
theorem http_visible (s : ByteArray) (w : World) (hs : s.size ≤ 9223372036854775807) : Calls Tryz.prog 228 #[.string s, .int .u8 33] w fun e w' => e = .returned (.bool (visB s)) ∧ w = w' := by
  go_enter Tryz.func228, Tryz.ntmps228
  go_wp2_with fail
  go_loopg [8] s.size (fun r s8 wr => ∃ j : Nat, j ≤ s.size ∧ r = s.size - j ∧ s8 = .int .i64 j ∧ w = wr ∧ ∀ c ∈ s.data.toList.take j, visC c = true)
  case atStart => exact ⟨0, by omega, rfl, rfl, rfl, fun c hc => by simp at hc⟩
  case round =>
    obtain ⟨j, hj, rfl, rfl, rfl, hq⟩ := hrel
    have HQ := Lib.hid hq; clear hq
    by_cases hlt : j < s.size
    · have hlt2 : (j : Int) < s.size := by omega
      cases hv : visC (s[j]'hlt)
      · have hr := visB_no hlt hv
        have HR := Lib.hid hr; clear hr
        simp only [visC, Bool.not_eq_false', Bool.or_eq_true, decide_eq_true_eq] at hv
        by_cases h1 : ((s[j]'hlt).toNat : Int) < 33
        · clear hv
          go_wp2
          go_ret
          exact ⟨by rw [HR.out]; rfl, rfl⟩
        · have h2 : (126 : Int) < (s[j]'hlt).toNat := by omega
          clear hv
          go_wp2
          go_ret
          exact ⟨by rw [HR.out]; rfl, rfl⟩
      · have HV := Lib.hid hv
        simp only [visC, Bool.not_eq_true', Bool.or_eq_false_iff, decide_eq_false_iff_not] at hv
        obtain ⟨h1, h2⟩ := hv
        go_wp2
        go_roundg (s.size - (j + 1))
        case measure => omega
        case rel =>
          refine ⟨j + 1, by omega, rfl, by go_num, rfl, fun c hc => ?_⟩
          rw [List.take_add_one, List.getElem?_eq_getElem (by rw [Array.length_toList]; exact hlt), List.mem_append] at hc
          rcases hc with hc | hc
          · exact HQ.out c hc
          · simp only [Option.toList_some, List.mem_singleton] at hc
            subst hc
            exact HV.out
    · obtain rfl : s.size = j := by omega
      have hlt2 : ¬ (s.size : Int) < s.size := by omega
      have hr : visB s = true := by
        rw [visB, List.all_eq_true]
        have := HQ.out
        rwa [show s.size = s.data.toList.length from Array.length_toList.symm, List.take_length] at this
      have HR := Lib.hid hr; clear hr HQ
      go_wp2
      go_ret
      exact ⟨by rw [HR.out]; rfl, rfl⟩
def pathB (s : ByteArray) : Bool := Lib.hasPrefix s.data.toList [47] && (decide (s.size ≤ 60) && (visB s && !decide (0 ≤ Lib.indexByte s.data.toList 35)))
theorem http_path (s : ByteArray) (w : World) (hs : s.size ≤ 9223372036854775807) : Calls Tryz.prog 203 #[.string s] w fun e w' => e = .returned (.bool (pathB s)) ∧ w = w' := by
  unfold pathB
  have H1 := Tryz.strings_HasPrefix s ⟨#[47]⟩ w
  rw [show (⟨#[47]⟩ : ByteArray).data.toList = [47] from rfl] at H1
  have H2 := http_visible s w hs
  have H3 := Tryz.strings_Contains_one s 35 w
  generalize Lib.hasPrefix s.data.toList [47] = b1 at H1 ⊢
  generalize visB s = b2 at H2 ⊢
  generalize decide (0 ≤ Lib.indexByte s.data.toList 35) = b3 at H3 ⊢
  cases b1
  · go_enter Tryz.func203, Tryz.ntmps203
    go_wp2_with fail
    refine H1.mono ?_; rintro e w1 ⟨rfl, rfl⟩
    go_wp2
    go_ret
    exact ⟨rfl, rfl⟩
  · by_cases h60 : s.size ≤ 60
    · have h61 : (s.size : Int) ≤ 60 := by omega
      rw [decide_eq_true h60]
      cases b2
      · go_enter Tryz.func203, Tryz.ntmps203
        go_wp2_with fail
        refine H1.mono ?_; rintro e w1 ⟨rfl, rfl⟩
        go_wp2_with fail
        refine H2.mono ?_; rintro e w1 ⟨rfl, rfl⟩
        go_wp2
        go_ret
        exact ⟨rfl, rfl⟩
      · go_enter Tryz.func203, Tryz.ntmps203
        go_wp2_with fail
        refine H1.mono ?_; rintro e w1 ⟨rfl, rfl⟩
        go_wp2_with fail
        refine H2.mono ?_; rintro e w1 ⟨rfl, rfl⟩
        go_wp2_with fail
        refine H3.mono ?_; rintro e w1 ⟨rfl, rfl⟩
        go_wp2
        go_ret
        exact ⟨rfl, rfl⟩
    · have h61 : ¬ (s.size : Int) ≤ 60 := by omega
      rw [decide_eq_false h60]
      go_enter Tryz.func203, Tryz.ntmps203
      go_wp2_with fail
      refine H1.mono ?_; rintro e w1 ⟨rfl, rfl⟩
      go_wp2
      go_ret
      exact ⟨rfl, rfl⟩
def getV : ByteArray := ⟨#[71, 69, 84]⟩
theorem http_Check (s : ByteArray) (a c : Nat) (w : World) (hs : s.size ≤ 9223372036854775807) (ha : a < w.heap.size) (h0 : w.cell? ⟨a, 0, none⟩ = some (.string hostN)) (h1 : w.cell? ⟨a, 1, none⟩ = some (.string hostX)) :
    Calls Tryz.prog 176 #[.agg #[.string ⟨#[71, 69, 84]⟩, .string s, .int .i64 0, .slice (some ⟨a, 0, none⟩) 1 c, .slice none 0 0]] w fun e w' => e = .returned (.int .i64 (if pathB s then 0 else 2)) ∧ Below w.heap.size w w' := by
  obtain ⟨w0, hw0⟩ : ∃ w0 : World, w0 = w.alloc (.cells #[.string ⟨#[71, 69, 84]⟩, .string s, .int .i64 0, .slice (some ⟨a, 0, none⟩) 1 c, .slice none 0 0] 252) := ⟨_, rfl⟩
  have hb0 : Below w.heap.size w w0 := by rw [hw0]; exact (Below.refl _ w).alloc (Nat.le_refl _) _
  have hn : w0.heap[w.heap.size]? = some (.cells #[.string ⟨#[71, 69, 84]⟩, .string s, .int .i64 0, .slice (some ⟨a, 0, none⟩) 1 c, .slice none 0 0] 252) := by rw [hw0]; exact heap_new w _
  have hlt : w.heap.size < w0.heap.size := (Array.getElem?_eq_some_iff.1 hn).1
  have d0 := (hb0.cell (p := ⟨a, 0, none⟩) ha).trans h0
  have d1 := (hb0.cell (p := ⟨a, 1, none⟩) ha).trans h1
  have m0 := cell_of (o := 0) hn
  have m1 := cell_of (o := 1) hn
  have m2 := cell_of (o := 2) hn
  have m3 := cell_of (o := 3) hn
  have m4 := cell_of (o := 4) hn
  have HN := Lib.hid hn; clear hn
  have hsl : SlAt w0 (some ⟨a, 0, none⟩) 1 2 hostC := .inr ⟨a, 0, rfl, fun i hi j hj => by
    obtain rfl : i = 0 := by omega
    have : j = 0 ∨ j = 1 := by omega
    rcases this with rfl | rfl
    · exact d0
    · exact d1⟩
  have hcf := containsFunc_head (some ⟨a, 0, none⟩) 1 c (by omega) hostC (fun _ => false) 206 #[] (enters_of Tryz.func206 (by kernel_rfl) rfl) w0 hsl (fun i hi W hW => by
    refine (http_Check1 hostN hostX W).mono ?_
    rintro e w' ⟨rfl, hb⟩
    exact ⟨by rw [host_keep]; rfl, hb⟩)
  have HC := Lib.hid hcf; clear hcf
  have HS := Lib.hid hsl; clear hsl
  have HP := http_path s w0 hs
  have ha0 : a < w0.heap.size := by omega
  clear h0 h1
  cases hp : pathB s
  · rw [hp] at HP
    go_enter Tryz.func176, Tryz.ntmps176
    go_wp2_with fail
    rw [← hw0]
    refine (http_method w0).mono ?_; rintro e w1 ⟨rfl, rfl⟩
    clear hw0
    go_wp2_with fail
    refine HP.mono ?_; rintro e w1 ⟨rfl, rfl⟩
    go_wp2_with fail
    refine HC.out.mono ?_; rintro e w1 ⟨rfl, hb1⟩
    rw [show anyx (fun _ => false) 1 = false from rfl]
    have hb2 := hb0.trans (hb1.mono hb0.size)
    go_wp2_with fail
    go_ret
    exact ⟨rfl, hb2⟩
  · rw [hp] at HP
    go_enter Tryz.func176, Tryz.ntmps176
    go_wp2_with fail
    rw [← hw0]
    refine (http_method w0).mono ?_; rintro e w1 ⟨rfl, rfl⟩
    clear hw0
    go_wp2_with fail
    refine HP.mono ?_; rintro e w1 ⟨rfl, rfl⟩
    go_wp2_with fail
    refine HC.out.mono ?_; rintro e w1 ⟨rfl, hb1⟩
    rw [show anyx (fun _ => false) 1 = false from rfl]
    have hb2 := hb0.trans (hb1.mono hb0.size)
    have p3 : w1.cell? ⟨w.heap.size, 3, none⟩ = some (.slice (some ⟨a, 0, none⟩) 1 c) := (hb1.cell (p := ⟨w.heap.size, 3, none⟩) hlt).trans m3
    have p4 : w1.cell? ⟨w.heap.size, 4, none⟩ = some (.slice none 0 0) := (hb1.cell (p := ⟨w.heap.size, 4, none⟩) hlt).trans m4
    clear m0 m1 m2 m3 m4
    go_wp2_with fail
    refine (head_Check_host a c w1 (HS.out.below hb1)).mono ?_; rintro e w2 ⟨rfl, hb3⟩
    have hb4 := hb2.trans (hb3.mono hb2.size)
    have hl1 : w.heap.size < w1.heap.size := Nat.lt_of_lt_of_le hlt hb1.size
    have q3 : w2.cell? ⟨w.heap.size, 3, none⟩ = some (.slice (some ⟨a, 0, none⟩) 1 c) := (hb3.cell (p := ⟨w.heap.size, 3, none⟩) hl1).trans p3
    have q4 : w2.cell? ⟨w.heap.size, 4, none⟩ = some (.slice none 0 0) := (hb3.cell (p := ⟨w.heap.size, 4, none⟩) hl1).trans p4
    have ha2 : a < w2.heap.size := Nat.lt_of_lt_of_le ha0 (Nat.le_trans hb1.size hb3.size)
    have d2 := (hb3.cell (p := ⟨a, 0, none⟩) (Nat.lt_of_lt_of_le ha0 hb1.size)).trans ((hb1.cell (p := ⟨a, 0, none⟩) ha0).trans d0)
    have d3 := (hb3.cell (p := ⟨a, 1, none⟩) (Nat.lt_of_lt_of_le ha0 hb1.size)).trans ((hb1.cell (p := ⟨a, 1, none⟩) ha0).trans d1)
    have HG := Lib.hid (head_Get_host a c w2 ha2 d2 d3)
    clear p3 p4 d0 d1 d2 d3
    go_wp2_with fail
    refine HG.out.mono ?_; rintro e w3 ⟨rfl, hb5⟩
    have hb6 := hb4.trans (hb5.mono hb4.size)
    have hE : hostX.toList.isEmpty = false := by rw [ByteArray.toList_eq]; rfl
    go_wp2_with fail
    go_ret
    exact ⟨rfl, hb6⟩
end Go.Proofs.YteblahoijolegaaGreatDoor
end
