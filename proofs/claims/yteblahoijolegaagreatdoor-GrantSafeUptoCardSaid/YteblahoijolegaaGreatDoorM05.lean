import Derived.Test.YteblahoijolegaaGreatDoorM04
import Derived.Lib.SliceRun
import Derived.Defers
import Derived.Laws.Pointers
import Derived.Laws.LoneSync
import Derived.RegionTactic
import Derived.RegionCalls
import Derived.ChangeAlike
section
set_option linter.all false
namespace Go.Proofs.YteblahoijolegaaGreatDoor
open Go.RowKit

/-- what a call of a predicate gives, in every world that keeps what 'keep' names -/
def PredK (keep : Nat → Prop) (g : Nat) (lb : Array Value) (el : Value) (b : Bool) (w : World) : Prop :=
  ∀ W, Kept keep w W → Calls Tryz.prog g (#[el] ++ lb) W fun e W' => e = .returned (.bool b) ∧ Below W.heap.size W W'
theorem findx_none {p : Nat → Bool} {n : Nat} (h : findx p n < 0) : ∀ j, j < n → p j = false := by
  intro j hj
  cases hp : p j
  · rfl
  · have := (fidx_iff p n 0).2 ⟨j, Nat.zero_le _, by omega, hp⟩
    unfold findx at h; omega
theorem fidx_some (p : Nat → Bool) (r : Nat) : ∀ i, 0 ≤ fidx p r i → ∃ j : Nat, fidx p r i = j ∧ i ≤ j ∧ j < i + r ∧ p j = true ∧ ∀ q, i ≤ q → q < j → p q = false := by
  induction r with
  | zero => intro i h; simp [fidx] at h
  | succ r ih =>
    intro i h
    unfold fidx at h ⊢
    split
    · next hp => exact ⟨i, rfl, Nat.le_refl _, by omega, hp, fun q h1 h2 => by omega⟩
    · next hp =>
      rw [if_neg hp] at h
      obtain ⟨j, h1, h2, h3, h4, h5⟩ := ih (i + 1) h
      refine ⟨j, h1, by omega, by omega, h4, fun q h6 h7 => ?_⟩
      rcases Nat.lt_or_ge i q with h8 | h8
      · exact h5 q h8 h7
      · obtain rfl : q = i := by omega
        simpa using hp
theorem fidx_neg (p : Nat → Bool) (r : Nat) : ∀ i, fidx p r i < 0 → fidx p r i = -1 := by
  induction r with
  | zero => intro i _; rfl
  | succ r ih =>
    intro i h
    unfold fidx at h ⊢
    split
    · next hp => rw [if_pos hp] at h; omega
    · next hp => rw [if_neg hp] at h; exact ih _ h
theorem setCells_heap (b k : Nat) (h : k ≠ b) : ∀ (vs : List Value) (o : Nat) (w : World), (w.setCells b o vs).heap[k]? = w.heap[k]?
  | [], _, _ => rfl
  | v :: vs, o, w => (setCells_heap b k h vs (o + 1) _).trans (heap_setne v h)
theorem setCells_self (b : Nat) (t : TypeId) : ∀ (vs : List Value) (o : Nat) (w : World) (c : Array Value), w.heap[b]? = some (.cells c t) → ∃ c', (w.setCells b o vs).heap[b]? = some (.cells c' t) ∧ c'.size = c.size ∧ ∀ q, q < o → c'[q]? = c[q]?
  | [], _, _, c, h => ⟨c, h, rfl, fun _ _ => rfl⟩
  | v :: vs, o, w, c, h => by
    obtain ⟨c', h1, h2, h3⟩ := setCells_self b t vs (o + 1) (w.setCell ⟨b, o, none⟩ v) _ (heap_set v h)
    exact ⟨c', h1, by rw [h2]; simp, fun q hq => by rw [h3 q (by omega), Array.getElem?_setIfInBounds_ne (by omega)]⟩
theorem setCells_kept {keep : Nat → Prop} (b : Nat) (hb : ¬ keep b) : ∀ (vs : List Value) (o : Nat) (w : World), Kept keep w (w.setCells b o vs)
  | [], _, w => Kept.refl _ w
  | v :: vs, o, w => ((Kept.refl _ w).setCell hb v).trans (setCells_kept b hb vs (o + 1) _)
/-- the list without those at which p holds, up to place j -/
def keepx (p : Nat → Bool) (xs : List Int) (j : Nat) : List Int := ((List.range j).filter fun q => !p q).map fun q => xs[q]?.getD 0
theorem keepx_succ (p : Nat → Bool) (xs : List Int) (j : Nat) : keepx p xs (j + 1) = if p j then keepx p xs j else keepx p xs j ++ [xs[j]?.getD 0] := by
  unfold keepx
  rw [List.range_succ, List.filter_append, List.map_append]
  cases hpj : p j <;> simp [hpj]
theorem keepx_all {p : Nat → Bool} (xs : List Int) {j : Nat} (hj : j ≤ xs.length) (h : ∀ q, q < j → p q = false) : keepx p xs j = xs.take j := by
  induction j with
  | zero => simp [keepx]
  | succ j ih =>
    rw [keepx_succ, h j (by omega), ih (by omega) (fun q hq => h q (by omega))]
    rw [List.take_succ_eq_append_getElem (by omega)]; simp [show j < xs.length from hj]
theorem keepx_len (p : Nat → Bool) (xs : List Int) (j : Nat) : (keepx p xs j).length ≤ j := by
  unfold keepx
  simpa using List.length_filter_le (fun q => !p q) (List.range j)

set_option maxHeartbeats 2000000 in
theorem deleteFunc_int (base : Nat) (v : Value) (xs : List Int) (hn : xs.length ≤ 100000) (p : Nat → Bool) (g : Nat) (lb : Array Value) (eg : ∀ args w, (callFunc g args).run Tryz.prog w = .ok (.enter g args) w) (w : World)
    (hv : w.ownsRow base 3 1 v xs.length (xs.map fun x => Value.int .i64 x)) (hp : ∀ i, i < xs.length → PredK (fun k => some k ≠ v.ownBlock) g lb (.int .i64 (xs[i]?.getD 0)) (p i) w) :
    Calls Tryz.prog 221 #[v, .func (.func g) #[] lb] w fun e w' => ∃ v', e = .returned v' ∧ w'.ownsRow base 3 1 v' (keepx p xs xs.length).length ((keepx p xs xs.length).map fun x => Value.int .i64 x) ∧ Kept (fun k => some k ≠ v.ownBlock) w w' := by
  have hfl : (xs.map fun x => Value.int .i64 x) = flat (fun i _ => .int .i64 (xs[i]?.getD 0)) xs.length 1 := by
    apply List.ext_getElem?; intro i
    by_cases hi : i < xs.length
    · rw [flat_get _ _ _ _ (by omega)]; simp [hi]
    · rw [List.getElem?_eq_none (by simpa using Nat.le_of_not_lt hi), List.getElem?_eq_none (by rw [flat_len]; omega)]
  obtain ⟨ao, cp, rfl, hsl, hno, hcp, hbl⟩ := slAt_of_own (w := w) (by omega) (hfl ▸ hv)
  have hidx := indexFunc_int ao xs.length cp hn (fun i _ => .int .i64 (xs[i]?.getD 0)) p g lb eg w hsl trivial (fun i hi W hW => hp i hi W (kept_of_below hW (fun k hk _ => hk)))
  rcases (by omega : findx p xs.length < 0 ∨ 0 ≤ findx p xs.length) with hneg | hpos
  · have hnone := findx_none hneg
    have hkx := keepx_all xs (Nat.le_refl _) hnone
    rw [List.take_length] at hkx
    have e1 : findx p xs.length = -1 := fidx_neg p _ _ hneg
    rw [e1] at hidx
    go_enter Tryz.func221, Tryz.ntmps221
    go_wp2_with fail
    refine hidx.mono ?_
    rintro e w1 ⟨rfl, hb⟩
    go_wp2_with fail
    go_ret
    rw [hkx]
    exact ⟨_, rfl, ownsRow_block hv (fun g hg => hb.block _ (by obtain ⟨_, c, h⟩ := ownsRow_cells hv hg; exact (Array.getElem?_eq_some_iff.1 h).1)), kept_of_below hb (fun k hk _ => hk)⟩
  · obtain ⟨j0, e1, -, hj0, hpj, hmin⟩ := fidx_some p xs.length 0 hpos
    rw [Nat.zero_add] at hj0
    rw [show findx p xs.length = (j0 : Int) from e1] at hidx
    rcases hv.2 with ⟨h1, h2⟩ | ⟨gb, cap, cur, h1, hgb, hheap, hnc, hmx, hsz, htk⟩
    · omega
    cases h1
    have hkx := keepx_all xs (by omega) (fun q hq => hmin q (by omega) hq)
    have hcp2 : (xs.length : Int) ≤ cp := by omega
    have h64 : cp ≤ 9223372036854775807 := by simpa [maxLen] using hmx
    have H64 := Lib.hid h64; clear h64 hmx
    go_enter Tryz.func221, Tryz.ntmps221
    go_wp2_with fail
    refine hidx.mono ?_
    rintro e w1 ⟨rfl, hb⟩
    have hne : ((j0 : Int) == -1) = false := by rw [beq_eq_false_iff_ne]; omega
    go_wp2_with fail
    have hh1 : w1.heap[gb]? = some (.cells cur 3) := (hb.block _ (Array.getElem?_eq_some_iff.1 hheap).1).trans hheap
    go_loopg [5, 6, 7] (xs.length - (j0 + 1)) (fun r s5 s6 s7 wr => ∃ (j : Nat) (cur' : Array Value), j0 < j ∧ j ≤ xs.length ∧ r = xs.length - j ∧ s6 = .int .i64 j ∧ s5 = .int .i64 (keepx p xs j).length ∧ (keepx p xs j).length < j ∧
      wr.heap[gb]? = some (.cells cur' 3) ∧ cur'.size = cp * 1 ∧ (∀ q, q < (keepx p xs j).length → cur'[q]? = some (.int .i64 ((keepx p xs j)[q]?.getD 0))) ∧ (∀ q, j ≤ q → q < xs.length → cur'[q]? = some (.int .i64 (xs[q]?.getD 0))) ∧ Kept (fun k => k ≠ gb) w wr)
    case atStart =>
      have hk1 : keepx p xs (j0 + 1) = keepx p xs j0 := by rw [keepx_succ, hpj]; rfl
      have hl0 : (keepx p xs j0).length = j0 := by rw [hkx, List.length_take]; omega
      have hcur : ∀ q, q < xs.length → cur[q]? = some (.int .i64 (xs[q]?.getD 0)) := by
        intro q hq
        have : (cur.toList.take (xs.length * 1))[q]? = some (.int .i64 (xs[q]?.getD 0)) := by rw [htk]; simp [hq]
        rw [List.getElem?_take_of_lt (by omega)] at this
        simpa using this
      refine ⟨j0 + 1, cur, by omega, by omega, rfl, by go_num, by rw [hk1, hl0], by rw [hk1, hl0]; omega, hh1, hsz, fun q hq => ?_, fun q h1 h2 => hcur q h2, kept_of_below hb (fun k hk _ => hk)⟩
      rw [hk1, hl0] at hq
      rw [hcur q (by omega), hk1, hkx, List.getElem?_take_of_lt hq]
    case round =>
      obtain ⟨j, cur', hj1, hj2, rfl, rfl, rfl, hlt3, hheap', hsz', hpre, hrest, hK⟩ := hrel
      obtain ⟨I, hI⟩ : ∃ I, (keepx p xs j).length = I := ⟨_, rfl⟩
      rw [hI] at hlt3 hpre ⊢
      have HI := Lib.hid hI; clear hI
      by_cases hlt : j < xs.length
      · obtain ⟨x, hx⟩ : ∃ x, xs[j]?.getD 0 = x := ⟨_, rfl⟩
        have hlt2 : (j : Int) < xs.length := by omega
        have hI2 : (I : Int) < xs.length := by omega
        have cj : wr.cell? ⟨gb, j, none⟩ = some (.int .i64 x) := by rw [cell_of hheap', hrest j (Nat.le_refl _) hlt, hx]
        have hpj := hp j hlt wr (hK.mono fun k _ hk e => hk (by rw [e]; rfl))
        rw [hx] at hpj
        obtain ⟨b, hb0⟩ : ∃ b, p j = b := ⟨_, rfl⟩
        rw [hb0] at hpj
        have hkx1 := keepx_succ p xs j
        rw [hb0, hx] at hkx1
        have HX := Lib.hid hx; clear hx
        have HB := Lib.hid hb0; clear hb0
        have HK1 := Lib.hid hkx1; clear hkx1
        have HPre := Lib.hid hpre; clear hpre
        have HRest := Lib.hid hrest; clear hrest
        clear hp hmin hkx hidx
        go_wp2_with fail
        refine hpj.mono ?_
        rintro e w2 ⟨rfl, hb2⟩
        have hh2 : w2.heap[gb]? = some (.cells cur' 3) := (hb2.block _ (Array.getElem?_eq_some_iff.1 hheap').1).trans hheap'
        have cI : ∃ u, w2.cell? ⟨gb, I, none⟩ = some u := by rw [cell_of hh2]; exact ⟨cur'[I]'(by omega), by simp⟩
        obtain ⟨u, cI⟩ := cI
        have fI : w2.frozen? ⟨gb, I, none⟩ = false := free_of hh2
        have hK2 : Kept (fun k => k ≠ gb) w w2 := hK.trans2 (kept_of_below hb2 (fun k hk _ => hk)) (fun k hk h => h)
        cases b
        · go_wp2_with fail
          go_roundg (xs.length - (j + 1))
          case measure => omega
          case rel =>
            have e2 : keepx p xs (j + 1) = keepx p xs j ++ [x] := HK1.out
            have e3 : (keepx p xs (j + 1)).length = I + 1 := by rw [e2, List.length_append, HI.out]; rfl
            refine ⟨j + 1, cur'.setIfInBounds I (.int .i64 x), by omega, by omega, rfl, by go_num, by rw [e3]; go_num, by rw [e3]; omega, heap_set _ hh2, by simpa using hsz', fun q hq => ?_, fun q h1 h2 => ?_, hK2.setCell (by simp) _⟩
            · rw [e3] at hq
              by_cases hqI : q = I
              · subst hqI
                rw [Array.getElem?_setIfInBounds_self_of_lt (by omega), e2, List.getElem?_append_right (by rw [HI.out]; exact Nat.le_refl _), HI.out]; simp
              · rw [Array.getElem?_setIfInBounds_ne (by omega), HPre.out q (by omega), e2, List.getElem?_append_left (by rw [HI.out]; omega)]
            · rw [Array.getElem?_setIfInBounds_ne (by omega), HRest.out q (by omega) h2]
        · go_wp2_with fail
          go_roundg (xs.length - (j + 1))
          case measure => omega
          case rel =>
            have e2 : keepx p xs (j + 1) = keepx p xs j := HK1.out
            refine ⟨j + 1, cur', by omega, by omega, rfl, by go_num, by rw [e2, HI.out], by rw [e2, HI.out]; omega, hh2, hsz', fun q hq => ?_, fun q h1 h2 => HRest.out q (by omega) h2, hK2⟩
            rw [e2] at hq ⊢
            exact HPre.out q (by rw [← HI.out]; exact hq)
      · obtain rfl : j = xs.length := by omega
        have hcl : ∀ ty, (Builtin.clear_ #[63] ty #[.slice (some ⟨gb, I, none⟩) (xs.length - I) (cp - I)]).run Tryz.prog wr = .ok (.tuple #[]) (wr.setCells gb I (List.replicate (xs.length - I) (.int .i64 0))) := fun ty =>
          Lib.run_clear_slice wr 63 3 ty _ Tryz.underlying63 (fun _ => by kernel_rfl) rfl rfl gb I _ _ (by omega) (fun q hq => by rw [cell_of hheap']; simp; omega) (fun q hq => free_of hheap')
        have hIlt : (I : Int) ≤ xs.length := by omega
        have h5 := H64.out
        have hI3 : (I : Int) ≤ cp := by omega
        clear hp hmin hkx hidx
        go_wp2_with fail
        go_ret
        obtain ⟨c', g1, g2, g3⟩ := setCells_self gb 3 (List.replicate (xs.length - I) (.int .i64 0)) I wr cur' hheap'
        refine ⟨.slice (some ⟨gb, 0, none⟩) I cp, by simp, ?_, (hK.mono fun k _ hk e => hk (by rw [e]; rfl)).trans (setCells_kept gb (fun h => h rfl) _ _ _)⟩
        rw [HI.out]
        refine ⟨by rw [List.length_map, HI.out]; omega, .inr ⟨gb, cp, c', rfl, hgb, g1, by omega, by simpa [maxLen] using h5, by rw [g2]; exact hsz', ?_⟩⟩
        apply List.ext_getElem?
        intro q
        by_cases hq : q < I
        · rw [List.getElem?_take_of_lt (by omega), Array.getElem?_toList, g3 q hq, hpre q hq]
          simp [show q < (keepx p xs xs.length).length from by rw [HI.out]; exact hq]
        · rw [List.getElem?_eq_none (by simp; omega), List.getElem?_eq_none (by rw [List.length_map, HI.out]; omega)]
end Go.Proofs.YteblahoijolegaaGreatDoor
end
section
set_option linter.all false
namespace Go.Proofs.YteblahoijolegaaGreatDoor
open Go.RowKit

theorem SlAt.kept {w w' : World} {ao : Option Addr} {n k : Nat} {c : Nat → Nat → Value} {keep : Nat → Prop} (h : SlAt w ao n k c) (hk : Kept keep w w') (ha : ∀ a, ao = some a → keep a.block) : SlAt w' ao n k c := by
  rcases h with h | ⟨a, off, h1, h2⟩
  · exact .inl h
  · refine .inr ⟨a, off, h1, fun i hi j hj => ?_⟩
    exact (World.cell?_of_block (a := ⟨a, off + i * k + j, none⟩) (hk.block a (cell_lt (h2 i hi j hj)) (ha _ h1))).trans (h2 i hi j hj)
def intsAt (w : World) (ao : Option Addr) (xs : List Int) : Prop := SlAt w ao xs.length 1 (fun i _ => .int .i64 (xs[i]?.getD 0))
theorem anyx_mem (xs : List Int) (v : Int) : anyx (fun i => v == xs[i]?.getD 0) xs.length = xs.contains v := by
  rw [Bool.eq_iff_iff, anyx_iff]
  simp only [beq_iff_eq, List.contains_iff_mem]
  constructor
  · rintro ⟨j, h1, h2⟩; rw [h2]; simp [h1]
  · intro h
    obtain ⟨j, h1, h2⟩ := List.getElem_of_mem h
    exact ⟨j, h1, by simp [h1, h2]⟩

set_option maxHeartbeats 1000000 in
theorem both1 (x : Int) (bb : Nat) (bo : Option Addr) (cq : Nat) (ys : List Int) (hn : ys.length ≤ 100000) (w : World) (hb : w.heap[bb]? = some (.cells #[.slice bo ys.length cq] 63)) (hs : intsAt w bo ys) :
    Calls Tryz.prog 223 #[.int .i64 x, .pointer (some ⟨bb, 0, none⟩)] w fun e w' => e = .returned (.bool (!ys.contains x)) ∧ Below w.heap.size w w' := by
  have hC := contains_int bo ys.length cq hn (fun i => ys[i]?.getD 0) x w hs
  rw [anyx_mem] at hC
  generalize ys.contains x = r at hC ⊢
  have c0 := cell_of (o := 0) hb
  simp only [List.getElem?_toArray, List.getElem?_cons_zero] at c0
  go_enter Tryz.func223, Tryz.ntmps223
  go_wp2_with fail
  refine hC.mono ?_
  rintro e w1 ⟨rfl, hb1⟩
  go_wp2_with fail
  go_ret
  exact ⟨rfl, hb1⟩

def bothOf (xs ys : List Int) : List Int := xs.filter ys.contains
theorem keepx_filter (xs ys : List Int) : keepx (fun i => !ys.contains (xs[i]?.getD 0)) xs xs.length = bothOf xs ys := by
  have : ∀ j, j ≤ xs.length → keepx (fun i => !ys.contains (xs[i]?.getD 0)) xs j = (xs.take j).filter ys.contains := by
    intro j
    induction j with
    | zero => intro _; simp [keepx]
    | succ j ih =>
      intro hj
      rw [keepx_succ, ih (by omega), List.take_succ_eq_append_getElem (by omega), List.filter_append]
      have : xs[j]?.getD 0 = xs[j] := by simp [show j < xs.length from hj]
      rw [this]
      by_cases h : xs[j] ∈ ys <;> simp [h]
  rw [this _ (Nat.le_refl _), List.take_length]; rfl

set_option maxHeartbeats 1000000 in
theorem both_any (ao bo : Option Addr) (cp cq : Nat) (xs ys : List Int) (hn : xs.length ≤ 100000) (hm : ys.length ≤ 100000) (hno : ao = none → xs.length = 0 ∧ cp = 0) (hsp : ∀ a, ao = some a → a.spot = none) (w : World) (hx : intsAt w ao xs) (hy : intsAt w bo ys) (hbl : ∀ a, bo = some a → a.block < w.heap.size) :
    Calls Tryz.prog 195 #[.slice ao xs.length cp, .slice bo ys.length cq] w fun e w' => ∃ v, e = .returned v ∧ w'.ownsRow w.heap.size 3 1 v (bothOf xs ys).length ((bothOf xs ys).map fun x => Value.int .i64 x) ∧ Below w.heap.size w w' := by
  have hw1 : Below w.heap.size w (w.alloc (.cells #[.slice bo ys.length cq] 63)) := (Below.refl _ w).alloc (Nat.le_refl _) _
  have hcl := clone_int ao xs.length cp hn hno hsp (fun i _ => .int .i64 (xs[i]?.getD 0)) (fun _ _ => rfl) _ (hx.below hw1)
  go_enter Tryz.func195, Tryz.ntmps195
  go_wp2_with fail
  refine hcl.mono ?_
  rintro e w1 ⟨v, rfl, hv, hb1⟩
  have hfl : flat (fun i _ => .int .i64 (xs[i]?.getD 0)) xs.length 1 = (xs.map fun x => Value.int .i64 x) := by
    apply List.ext_getElem?; intro i
    by_cases hi : i < xs.length
    · rw [flat_get _ _ _ _ (by omega)]; simp [hi]
    · rw [List.getElem?_eq_none (by rw [flat_len]; omega), List.getElem?_eq_none (by simpa using Nat.le_of_not_lt hi)]
  rw [hfl] at hv
  simp only [World.size_alloc] at hv hb1
  have hbox : w1.heap[w.heap.size]? = some (.cells #[.slice bo ys.length cq] 63) := (hb1.block _ (by omega)).trans (heap_new w _)
  have hyw : intsAt w1 bo ys := hy.below (hw1.trans (hb1.mono (by omega)))
  have hno : ∀ k, k < w.heap.size + 1 → some k ≠ v.ownBlock := fun k hk e => by have := (ownsRow_cells hv e.symm).1; omega
  have hdel := deleteFunc_int (w.heap.size + 1) v xs hn (fun i => !ys.contains (xs[i]?.getD 0)) 223 #[.pointer (some ⟨w.heap.size, 0, none⟩)] (enters_of Tryz.func223 (by kernel_rfl) rfl) w1 hv
    (fun i hi W hW => both1 _ w.heap.size bo cq ys hm W ((hW.block _ (Array.getElem?_eq_some_iff.1 hbox).1 (hno _ (by omega))).trans hbox) (hyw.kept hW (fun a ha => hno _ (by have := hbl a ha; omega))))
  rw [keepx_filter] at hdel
  go_wp2_with fail
  refine hdel.mono ?_
  rintro e w2 ⟨v2, rfl, hv2, hk2⟩
  go_wp2_with fail
  go_ret
  exact ⟨v2, rfl, ownsRow_base hv2 (by omega), (hw1.trans (hb1.mono (by omega))).trans (hk2.below (by have := hb1.size; simp at this; omega) (fun k hk => hno k (by omega)))⟩

/-- a comparison that only computes -/
def AheadB (g : Nat) (fs lb : Array Value) (ah : Int → Int → Bool) (xs : List Int) (w : World) : Prop :=
  ∀ x ∈ xs, ∀ y ∈ xs, ∀ W, Below w.heap.size w W → Calls Tryz.prog g (fs ++ (#[.int .i64 x, .int .i64 y] ++ lb)) W fun e W' => e = .returned (.bool (ah x y)) ∧ W = W'
set_option maxHeartbeats 1000000 in
theorem best1 (x y : Int) (bf ba g : Nat) (fs lb : Array Value) (eg : ∀ args w, (callFunc g args).run Tryz.prog w = .ok (.enter g args) w) (r : Bool) (w : World) (hf : w.heap[bf]? = some (.cells #[.func (.func g) fs lb] 216)) (ha : w.heap[ba]? = some (.cells #[.int .i64 x] 3))
    (hc : Calls Tryz.prog g (fs ++ (#[.int .i64 x, .int .i64 y] ++ lb)) w fun e W' => e = .returned (.bool r) ∧ w = W') :
    Calls Tryz.prog 220 #[.int .i64 y, .pointer (some ⟨bf, 0, none⟩), .pointer (some ⟨ba, 0, none⟩)] w fun e w' => e = .returned (.bool (!r)) ∧ Below w.heap.size w w' := by
  have c0 := cell_of (o := 0) hf
  have c1 := cell_of (o := 0) ha
  simp only [List.getElem?_toArray, List.getElem?_cons_zero] at c0 c1
  go_enter Tryz.func220, Tryz.ntmps220
  go_wp2_with fail
  refine hc.mono ?_
  rintro e w1 ⟨rfl, rfl⟩
  go_wp2_with fail
  go_ret
  exact ⟨rfl, Below.refl _ _⟩

def bestFrom (ah : Int → Int → Bool) (xs : List Int) : List Int → Int
  | [] => -1
  | a :: r => if xs.all (ah a) then a else bestFrom ah xs r
def bestOf (ah : Int → Int → Bool) (xs : List Int) : Int := bestFrom ah xs xs
theorem anyx_all (xs : List Int) (q : Int → Bool) : anyx (fun i => !q (xs[i]?.getD 0)) xs.length = !xs.all q := by
  rw [Bool.eq_iff_iff, anyx_iff]
  simp only [Bool.not_eq_true', List.all_eq_false, Bool.not_eq_true]
  constructor
  · rintro ⟨j, h1, h2⟩; exact ⟨xs[j], List.getElem_mem h1, by simpa [h1] using h2⟩
  · rintro ⟨a, h, h2⟩
    obtain ⟨j, h1, rfl⟩ := List.getElem_of_mem h
    exact ⟨j, h1, by simpa [h1] using h2⟩
set_option maxHeartbeats 1000000 in
theorem best_any (ao : Option Addr) (cp : Nat) (xs : List Int) (hn : xs.length ≤ 100000) (g : Nat) (fs lb : Array Value) (eg : ∀ args w, (callFunc g args).run Tryz.prog w = .ok (.enter g args) w) (ah : Int → Int → Bool) (w : World) (hx : intsAt w ao xs) (hbl : ∀ a, ao = some a → a.block < w.heap.size)
    (hA : AheadB g fs lb ah xs w) :
    Calls Tryz.prog 194 #[.slice ao xs.length cp, .func (.func g) fs lb] w fun e w' => e = .returned (.int .i64 (bestOf ah xs)) ∧ Below w.heap.size w w' := by
  go_enter Tryz.func194, Tryz.ntmps194
  go_wp2_with fail
  go_loopg [9] xs.length (fun r s9 wr => ∃ i : Nat, i ≤ xs.length ∧ r = xs.length - i ∧ s9 = .int .i64 i ∧ bestFrom ah xs (xs.drop i) = bestOf ah xs ∧ Below (w.heap.size + 1) (w.alloc (.cells #[.func (.func g) fs lb] 216)) wr)
  case atStart => exact ⟨0, by omega, rfl, rfl, rfl, Below.refl _ _⟩
  case round =>
    obtain ⟨i, hi, rfl, rfl, he, hb⟩ := hrel
    have hsz := hb.size
    simp only [World.size_alloc] at hsz
    have hbw : Below w.heap.size w wr := ((Below.refl _ w).alloc (Nat.le_refl _) _).trans (hb.mono (by omega))
    by_cases hlt : i < xs.length
    · have hxw := hx.below hbw
      rcases hxw with h0 | ⟨a, off, rfl, hcs⟩
      · omega
      have d0 := hcs i hlt 0 (by omega)
      simp only [Nat.mul_one, Nat.add_zero] at d0
      obtain ⟨x, hxi⟩ : ∃ x, xs[i]?.getD 0 = x := ⟨_, rfl⟩
      rw [hxi] at d0
      have hmem : x ∈ xs := by rw [← hxi]; simp [hlt]
      rw [List.drop_eq_getElem_cons hlt, bestFrom, show xs[i] = x from by rw [← hxi]; simp [hlt]] at he
      have hbox : wr.heap[w.heap.size]? = some (.cells #[.func (.func g) fs lb] 216) := (hb.block _ (by omega)).trans (heap_new w _)
      have hbW : Below w.heap.size w (wr.alloc (.cells #[.int .i64 x] 3)) := hbw.alloc (by omega) _
      have hcf := containsFunc_int (some ⟨a, off, none⟩) xs.length cp hn (fun i _ => .int .i64 (xs[i]?.getD 0)) (fun j => !ah x (xs[j]?.getD 0)) 220 #[.pointer (some ⟨w.heap.size, 0, none⟩), .pointer (some ⟨wr.heap.size, 0, none⟩)] (enters_of Tryz.func220 (by kernel_rfl) rfl) (wr.alloc (.cells #[.int .i64 x] 3)) (hx.below hbW)
        (fun j hj W hW => by
          have hW2 : Below w.heap.size w W := hbW.trans (hW.mono (by simp; omega))
          refine (best1 x _ w.heap.size wr.heap.size g fs lb eg (ah x (xs[j]?.getD 0)) W ((hW.block _ (by simp; omega)).trans ((heap_old (by omega)).trans hbox)) ((hW.block _ (by simp)).trans (heap_new wr _)) ?_)
          exact hA x hmem (xs[j]?.getD 0) (by simp [hj]) W hW2)
      rw [anyx_all] at hcf
      obtain ⟨q, hq⟩ : ∃ q, xs.all (ah x) = q := ⟨_, rfl⟩
      rw [hq] at hcf he
      have HE := Lib.hid he; clear he
      have HX := Lib.hid hxi; clear hxi
      have HQ := Lib.hid hq; clear hq
      have hlt2 : (i : Int) < xs.length := by omega
      clear hcs
      go_wp2_with fail
      refine hcf.mono ?_
      rintro e w1 ⟨rfl, hb1⟩
      have c1 : w1.cell? ⟨wr.heap.size, 0, none⟩ = some (.int .i64 x) := (hb1.cell (p := ⟨wr.heap.size, 0, none⟩) (by simp)).trans (cell_of (heap_new wr _))
      have hbb : Below (w.heap.size + 1) (w.alloc (.cells #[.func (.func g) fs lb] 216)) w1 := (hb.alloc (by omega) _).trans (hb1.mono (by simp; omega))
      cases q
      · go_wp2_with fail
        go_roundg (xs.length - (i + 1))
        case measure => omega
        case rel => exact ⟨i + 1, by omega, rfl, by go_num, HE.out, hbb⟩
      · go_wp2_with fail
        go_ret
        exact ⟨congrArg (fun z => Ending.returned (.int .i64 z)) HE.out, ((Below.refl _ w).alloc (Nat.le_refl _) _).trans (hbb.mono (by omega))⟩
    · obtain rfl : i = xs.length := by omega
      rw [List.drop_length] at he
      have HE := Lib.hid he; clear he
      go_wp2_with fail
      go_ret
      exact ⟨congrArg (fun z => Ending.returned (.int .i64 z)) HE.out, hbw⟩
end Go.Proofs.YteblahoijolegaaGreatDoor
end
section
set_option linter.all false
namespace Go.Proofs.YteblahoijolegaaGreatDoor
open Go.RowKit

theorem disable (w : World) : (callFunc 269 #[]).run Tryz.prog w = .ok (.value (.tuple #[])) w := run_call_mark0 Tryz.func269 (by kernel_rfl) (by kernel_rfl) (by kernel_rfl) .disable (by kernel_rfl) w
theorem enable (w : World) : (callFunc 271 #[]).run Tryz.prog w = .ok (.value (.tuple #[])) w := run_call_mark0 Tryz.func271 (by kernel_rfl) (by kernel_rfl) (by kernel_rfl) .enable (by kernel_rfl) w
theorem acquire (a : Addr) (w : World) : (callFunc 272 #[.pointer (some a)]).run Tryz.prog w = .ok (.value (.tuple #[])) w := run_call_marked Tryz.func272 (by kernel_rfl) (by kernel_rfl) (by kernel_rfl) .acquire (by kernel_rfl) a w
theorem releaseMerge (a : Addr) (w : World) : (callFunc 274 #[.pointer (some a)]).run Tryz.prog w = .ok (.value (.tuple #[])) w := run_call_marked Tryz.func274 (by kernel_rfl) (by kernel_rfl) (by kernel_rfl) .releaseMerge (by kernel_rfl) a w

/-- '(*sync/atomic.Bool).Store(true)', entered as a deferred call: the cell holds 1. -/
theorem store_deferred (a : Addr) (x : Value) (u : FrameMode) (w : World) (hc : w.cell? a = some x) (hz : w.frozen? a = false) :
    CallsD Tryz.prog 245 #[.pointer (some a), .bool true] u w fun e u' w' => u' = u ∧ (e = .returned (.tuple #[]) ∧ w' = w.drew.setCell a (.int .u32 1)) := by
  have hc' : w.drew.cell? a = some x := by go_simp
  have hz' : w.drew.frozen? a = false := by go_simp
  have hst := run_call_store (P := Tryz.prog) Tryz.func261 (by kernel_rfl) (by kernel_rfl) (by kernel_rfl) (by kernel_rfl) (k := .u32) (y := 1) hc' hz'
  go_enter_d Tryz.func245, Tryz.ntmps245
  go_wp2
  go_region_calls
  all_goals (go_end0; exact ⟨rfl, rfl⟩)

set_option maxRecDepth 100000 in
/-- '(*sync.Mutex).Unlock', entered as a deferred call, the lock held and nobody waiting (state 1): state 0. -/
theorem unlock_deferred (a : Addr) (u : FrameMode) (w : World) (hc : w.cell? a = some (.int .i32 1)) (hz : w.frozen? a = false) :
    CallsD Tryz.prog 244 #[.pointer (some a)] u w fun e u' w' => u' = u ∧ (e = .returned (.tuple #[]) ∧ w' = w.setCell a (.int .i32 0)) := by
  have hd := disable
  have he := enable
  have hr := releaseMerge
  have hadd := run_call_add (P := Tryz.prog) Tryz.func275 (by kernel_rfl) (by kernel_rfl) (by kernel_rfl) .i32 (by kernel_rfl) (y := -1) (s := 0) hc hz (by simp [go_sem]; rfl)
  have hcv := run_convert_to_unsafe (P := Tryz.prog) (src := 321) (dst := 260) Tryz.underlying321 Tryz.underlying260 (by kernel_rfl) hc
  go_enter_d Tryz.func244, Tryz.ntmps244
  go_wp2
  go_end0
  go_wp2
  go_end0
  exact ⟨rfl, rfl⟩

set_option maxRecDepth 100000 in
/-- '(*sync.Mutex).Lock', the lock free (state 0): state 1. -/
theorem lock_free (a : Addr) (w : World) (hc : w.cell? a = some (.int .i32 0)) (hz : w.frozen? a = false) :
    Calls Tryz.prog 243 #[.pointer (some a)] w fun e w' => e = .returned (.tuple #[]) ∧ w.setCell a (.int .i32 1) = w' := by
  have hd := disable
  have he := enable
  have ha := acquire
  have hcas := run_call_cas_hit (P := Tryz.prog) Tryz.func270 (by kernel_rfl) (by kernel_rfl) (by kernel_rfl) .i32 (by kernel_rfl) (y := 1) hc hz
  have hc' : (w.setCell a (.int .i32 1)).cell? a = some (.int .i32 1) := World.cell?_setCell_same w a _ hc
  have hcv := run_convert_to_unsafe (P := Tryz.prog) (src := 321) (dst := 260) Tryz.underlying321 Tryz.underlying260 (by kernel_rfl) hc'
  go_enter Tryz.func243, Tryz.ntmps243
  go_wp2
  first | go_end0 | (simp only [Exit.inBlock, Exit.then]; refine bodyPost_ret (results_none rfl _ _ _) rfl ?_) | refine bodyPost_ret (results_none rfl _ _ _) rfl ?_
  go_wp2
  go_end0
  exact ⟨rfl, rfl⟩

theorem bool_load (a : Addr) (x : Int) (w : World) (h : w.cell? a = some (.int .u32 x)) :
    Calls Tryz.prog 217 #[.pointer (some a)] w fun e w' => e = .returned (.bool (x != 0)) ∧ w = w' := by
  have hl := run_call_load (P := Tryz.prog) Tryz.func242 (by kernel_rfl) (by kernel_rfl) (by kernel_rfl) .u32 (by kernel_rfl) h
  go_enter Tryz.func217, Tryz.ntmps217
  go_wp2
  go_ret
  exact ⟨rfl, rfl⟩

set_option maxRecDepth 100000 in
set_option maxHeartbeats 1600000 in
theorem slow_any (b off : Nat) (g : Nat) (lb : Array Value) (eg : ∀ args w, (callFunc g args).run Tryz.prog w = .ok (.enter g args) w) (T : World → Prop) (w : World)
    (h0 : w.cell? ⟨b, off, none⟩ = some (.int .u32 0)) (h1 : w.cell? ⟨b, off + 1, none⟩ = some (.int .i32 0)) (f1 : w.frozen? ⟨b, off + 1, none⟩ = false)
    (hf : Calls Tryz.prog g lb (w.setCell ⟨b, off + 1, none⟩ (.int .i32 1)) fun e W => e = .returned (.tuple #[]) ∧ T W)
    (hT : ∀ W, T W → W.cell? ⟨b, off, none⟩ = some (.int .u32 0) ∧ W.cell? ⟨b, off + 1, none⟩ = some (.int .i32 1) ∧ W.frozen? ⟨b, off, none⟩ = false ∧ W.frozen? ⟨b, off + 1, none⟩ = false) :
    Calls Tryz.prog 218 #[.pointer (some ⟨b, off, none⟩), .func (.func g) #[] lb] w fun e w' => e = .returned (.tuple #[]) ∧ ∃ W, T W ∧ w' = (W.drew.setCell ⟨b, off, none⟩ (.int .u32 1)).setCell ⟨b, off + 1, none⟩ (.int .i32 0) := by
  have hc0 : (w.setCell ⟨b, off + 1, none⟩ (.int .i32 1)).cell? ⟨b, off, none⟩ = some (.int .u32 0) := (World.cell?_setCell_other _ ⟨b, off + 1, none⟩ ⟨b, off, none⟩ _ (by simp)).trans h0
  have HT := Lib.hid hT; clear hT
  go_enter_defers Tryz.func218, Tryz.ntmps218
  go_wp2_with fail
  refine (lock_free ⟨b, off + 1, none⟩ _ (by go_simp) (by go_simp)).mono ?_; rintro e w' ⟨rfl, rfl⟩
  go_wp2_with fail
  refine (bool_load ⟨b, off, none⟩ 0 _ hc0).mono ?_; rintro e w' ⟨rfl, rfl⟩
  go_wp2_with fail
  refine hf.mono ?_
  rintro e W ⟨rfl, ht⟩
  obtain ⟨t0, t1, t2, t3⟩ := HT.out W ht
  go_wp2_with fail
  refine leaves_cons (f := 245) (args := #[.pointer (some ⟨b, off, none⟩), .bool true]) (by simp) (by simp [go_sem]) ?_
  refine (store_deferred ⟨b, off, none⟩ (.int .u32 0) .returning _ t0 t2).mono ?_
  rintro e u' w'' ⟨rfl, rfl, rfl⟩
  refine leaves_cons (f := 244) (args := #[.pointer (some ⟨b, off + 1, none⟩)]) (by simp [settle]) (by simp [go_sem]) ?_
  refine (unlock_deferred ⟨b, off + 1, none⟩ _ _ ?_ (by simp [t3])).mono ?_
  · refine (World.cell?_setCell_other _ ⟨b, off, none⟩ ⟨b, off + 1, none⟩ _ (by simp)).trans ?_
    rw [World.cell?_drew]; exact t1
  rintro e u' w'' ⟨rfl, rfl, rfl⟩
  simp only [Leaves, settle, results, Tryz.results218]
  exact ⟨.tuple #[], by simp, rfl, W, ht, rfl⟩

/-- '(*sync.Once).Do', not yet done, the lock free. -/
theorem do_first (b off : Nat) (g : Nat) (lb : Array Value) (eg : ∀ args w, (callFunc g args).run Tryz.prog w = .ok (.enter g args) w) (T : World → Prop) (w : World)
    (h0 : w.cell? ⟨b, off, none⟩ = some (.int .u32 0)) (h1 : w.cell? ⟨b, off + 1, none⟩ = some (.int .i32 0)) (f1 : w.frozen? ⟨b, off + 1, none⟩ = false)
    (hf : Calls Tryz.prog g lb (w.setCell ⟨b, off + 1, none⟩ (.int .i32 1)) fun e W => e = .returned (.tuple #[]) ∧ T W)
    (hT : ∀ W, T W → W.cell? ⟨b, off, none⟩ = some (.int .u32 0) ∧ W.cell? ⟨b, off + 1, none⟩ = some (.int .i32 1) ∧ W.frozen? ⟨b, off, none⟩ = false ∧ W.frozen? ⟨b, off + 1, none⟩ = false) :
    Calls Tryz.prog 191 #[.pointer (some ⟨b, off, none⟩), .func (.func g) #[] lb] w fun e w' => e = .returned (.tuple #[]) ∧ ∃ W, T W ∧ w' = (W.drew.setCell ⟨b, off, none⟩ (.int .u32 1)).setCell ⟨b, off + 1, none⟩ (.int .i32 0) := by
  have hs := slow_any b off g lb eg T w h0 h1 f1 hf hT
  have HS := Lib.hid hs; clear hs
  clear hT hf
  go_enter Tryz.func191, Tryz.ntmps191
  go_wp2_with fail
  refine (bool_load ⟨b, off, none⟩ 0 _ h0).mono ?_; rintro e w' ⟨rfl, rfl⟩
  go_wp2_with fail
  refine HS.out.mono ?_
  rintro e w' ⟨rfl, h⟩
  have H := Lib.hid h; clear h
  go_wp2_with fail
  go_end0
  exact ⟨rfl, H.out⟩
end Go.Proofs.YteblahoijolegaaGreatDoor
end
