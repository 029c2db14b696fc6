import Derived.Test.YteblahoijolegaaGreatDoorM03
import Derived.BigQuiet
import Derived.Laws.StructEq
import Derived.Deep.QuietTactic
import Derived.Lib.LazyBuf
section
set_option linter.all false
namespace Go.Proofs.YteblahoijolegaaGreatDoor
open Go.RowKit

set_option maxHeartbeats 1000000 in
theorem index_string (ao : Option Addr) (n cp : Nat) (hn : n ≤ 100000) (f : Nat → ByteArray) (v : ByteArray) (w : World)
    (hs : SlAt w ao n 1 (fun i _ => .string (f i))) :
    Calls Tryz.prog 147 #[.slice ao n cp, .string v] w fun e w' => e = .returned (.int .i64 (findx (fun i => v.toList == (f i).toList) n)) ∧ Below w.heap.size w w' := by
  obtain ⟨p, hp⟩ : ∃ p : Nat → Bool, p = (fun i => v.toList == (f i).toList) := ⟨_, rfl⟩
  rw [← hp]
  go_enter Tryz.func147, Tryz.ntmps147
  go_wp2_with fail
  go_loopg [8] n (fun r s8 wr => ∃ i : Nat, i ≤ n ∧ r = n - i ∧ s8 = .int .i64 i ∧ fidx p r i = findx p n ∧ Below w.heap.size w wr)
  case atStart => exact ⟨0, by omega, rfl, rfl, rfl, Below.refl _ _⟩
  case round =>
    obtain ⟨i, hi, rfl, rfl, he, hb⟩ := hrel
    by_cases hlt : i < n
    · rcases hs.below hb with h0 | ⟨a, off, rfl, hcs⟩
      · omega
      obtain ⟨r, hr⟩ : ∃ r, n - i = r + 1 := ⟨n - i - 1, by omega⟩
      rw [hr, fidx] at he
      have hpi := congrFun hp i
      have HE := Lib.hid he; clear he
      have HR := Lib.hid hr; clear hr
      have HP := Lib.hid hp; clear hp
      have HPI := Lib.hid hpi; clear hpi
      have hlt2 : (i : Int) < n := by omega
      have d0 := hcs i hlt 0 (by omega); simp only [Nat.mul_one, Nat.add_zero] at d0
      clear hcs
      go_wp2_with fail
      · have h : p i = true := HPI.out.trans (by assumption)
        go_ret
        exact ⟨congrArg (fun z => Ending.returned (.int .i64 z)) (by rw [← HE.out, h]; rfl), hb⟩
      · have h : p i = false := HPI.out.trans (by assumption)
        go_roundg r
        case measure => have := HR.out; omega
        case rel => exact ⟨i + 1, by omega, by have := HR.out; omega, by go_num, by rw [← HE.out, h]; rfl, hb⟩
    · obtain rfl : i = n := by omega
      go_wp2
      go_ret
      rw [Nat.sub_self] at he
      exact ⟨by rw [← he]; rfl, hb⟩
set_option maxHeartbeats 1000000 in
theorem contains_string (ao : Option Addr) (n cp : Nat) (hn : n ≤ 100000) (f : Nat → ByteArray) (v : ByteArray) (w : World)
    (hs : SlAt w ao n 1 (fun i _ => .string (f i))) :
    Calls Tryz.prog 85 #[.slice ao n cp, .string v] w fun e w' => e = .returned (.bool (anyx (fun i => v.toList == (f i).toList) n)) ∧ Below w.heap.size w w' := by
  have hI := fun W h => index_string ao n cp hn f v W h
  unfold anyx
  generalize findx (fun i => v.toList == (f i).toList) n = r at hI ⊢
  go_enter Tryz.func85, Tryz.ntmps85
  go_wp2_with fail
  refine (hI _ (by first | exact hs | exact hs.below ((Below.refl _ w).alloc (Nat.le_refl _) _))).mono ?_
  rintro e w1 ⟨rfl, hb⟩
  by_cases hr : 0 ≤ r
  · go_wp2_with fail
    go_ret
    exact ⟨by simp [hr], by (repeat first | exact Below.refl _ _ | assumption | refine Below.alloc ?_ (by simp; try omega) _ | refine Below.drew ?_ | refine Below.drewN ?_ _ | refine Below.setCell ?_ (by simp; try omega) _ | refine Below.trans ?_ (Below.mono (by assumption) (by simp; try omega)))⟩
  · go_wp2_with fail
    go_ret
    exact ⟨by simp [hr], by (repeat first | exact Below.refl _ _ | assumption | refine Below.alloc ?_ (by simp; try omega) _ | refine Below.drew ?_ | refine Below.drewN ?_ _ | refine Below.setCell ?_ (by simp; try omega) _ | refine Below.trans ?_ (Below.mono (by assumption) (by simp; try omega)))⟩
set_option maxHeartbeats 1000000 in
theorem index_int (ao : Option Addr) (n cp : Nat) (hn : n ≤ 100000) (f : Nat → Int) (v : Int) (w : World)
    (hs : SlAt w ao n 1 (fun i _ => .int .i64 (f i))) :
    Calls Tryz.prog 247 #[.slice ao n cp, .int .i64 v] w fun e w' => e = .returned (.int .i64 (findx (fun i => v == f i) n)) ∧ Below w.heap.size w w' := by
  obtain ⟨p, hp⟩ : ∃ p : Nat → Bool, p = (fun i => v == f i) := ⟨_, rfl⟩
  rw [← hp]
  go_enter Tryz.func247, Tryz.ntmps247
  go_wp2_with fail
  go_loopg [8] n (fun r s8 wr => ∃ i : Nat, i ≤ n ∧ r = n - i ∧ s8 = .int .i64 i ∧ fidx p r i = findx p n ∧ Below w.heap.size w wr)
  case atStart => exact ⟨0, by omega, rfl, rfl, rfl, Below.refl _ _⟩
  case round =>
    obtain ⟨i, hi, rfl, rfl, he, hb⟩ := hrel
    by_cases hlt : i < n
    · rcases hs.below hb with h0 | ⟨a, off, rfl, hcs⟩
      · omega
      obtain ⟨r, hr⟩ : ∃ r, n - i = r + 1 := ⟨n - i - 1, by omega⟩
      rw [hr, fidx] at he
      have hpi := congrFun hp i
      have HE := Lib.hid he; clear he
      have HR := Lib.hid hr; clear hr
      have HP := Lib.hid hp; clear hp
      have HPI := Lib.hid hpi; clear hpi
      have hlt2 : (i : Int) < n := by omega
      have d0 := hcs i hlt 0 (by omega); simp only [Nat.mul_one, Nat.add_zero] at d0
      clear hcs
      go_wp2_with fail
      · have h : p i = true := HPI.out.trans (by assumption)
        go_ret
        exact ⟨congrArg (fun z => Ending.returned (.int .i64 z)) (by rw [← HE.out, h]; rfl), hb⟩
      · have h : p i = false := HPI.out.trans (by assumption)
        go_roundg r
        case measure => have := HR.out; omega
        case rel => exact ⟨i + 1, by omega, by have := HR.out; omega, by go_num, by rw [← HE.out, h]; rfl, hb⟩
    · obtain rfl : i = n := by omega
      go_wp2
      go_ret
      rw [Nat.sub_self] at he
      exact ⟨by rw [← he]; rfl, hb⟩
set_option maxHeartbeats 1000000 in
theorem contains_int (ao : Option Addr) (n cp : Nat) (hn : n ≤ 100000) (f : Nat → Int) (v : Int) (w : World)
    (hs : SlAt w ao n 1 (fun i _ => .int .i64 (f i))) :
    Calls Tryz.prog 224 #[.slice ao n cp, .int .i64 v] w fun e w' => e = .returned (.bool (anyx (fun i => v == f i) n)) ∧ Below w.heap.size w w' := by
  have hI := fun W h => index_int ao n cp hn f v W h
  unfold anyx
  generalize findx (fun i => v == f i) n = r at hI ⊢
  go_enter Tryz.func224, Tryz.ntmps224
  go_wp2_with fail
  refine (hI _ (by first | exact hs | exact hs.below ((Below.refl _ w).alloc (Nat.le_refl _) _))).mono ?_
  rintro e w1 ⟨rfl, hb⟩
  by_cases hr : 0 ≤ r
  · go_wp2_with fail
    go_ret
    exact ⟨by simp [hr], by (repeat first | exact Below.refl _ _ | assumption | refine Below.alloc ?_ (by simp; try omega) _ | refine Below.drew ?_ | refine Below.drewN ?_ _ | refine Below.setCell ?_ (by simp; try omega) _ | refine Below.trans ?_ (Below.mono (by assumption) (by simp; try omega)))⟩
  · go_wp2_with fail
    go_ret
    exact ⟨by simp [hr], by (repeat first | exact Below.refl _ _ | assumption | refine Below.alloc ?_ (by simp; try omega) _ | refine Below.drew ?_ | refine Below.drewN ?_ _ | refine Below.setCell ?_ (by simp; try omega) _ | refine Below.trans ?_ (Below.mono (by assumption) (by simp; try omega)))⟩
theorem run_eq_pair_d (d : Nat) (a b c e : Int) (w : World) : (Op.equalIn (d + 2) 60 (.agg #[.int .i64 a, .int .i64 b]) (.agg #[.int .i64 c, .int .i64 e])).run Tryz.prog w = .ok (a == c && b == e) w := by
  have hz : ∀ w, (Go.sizeOf 3).run Tryz.prog w = .ok 1 w := Tryz.sizeOf3
  have hI : ∀ (x y : Int) (w : World), (Op.equalIn (d + 1) 3 (.int .i64 x) (.int .i64 y)).run Tryz.prog w = .ok (x == y) w := fun x y w => run_equalIn_int w d 3 .i64 .i64 x y Tryz.underlying3
  have hA : ∀ w, (isAgg 3).run Tryz.prog w = .ok false w := Tryz.isAgg3
  generalize hE : Op.equalIn (d + 1) = E at hI
  have : Op.equalIn (d + 2) = Op.equalIn (d + 1 + 1) := rfl
  rw [this, Op.equalIn, hE]
  simp only [Sem.run_bind, run_underlying Tryz.underlying60, Result.andThen_ok, hz]
  have hp : ∀ (x y : Value) (w : World), (part 3 #[x, y] (0 * 1)).run Tryz.prog w = .ok x w := fun x y w => by simp [part, Sem.run_bind, hA]
  have hp1 : ∀ (x y : Value) (w : World), (part 3 #[x, y] (1 * 1)).run Tryz.prog w = .ok y w := fun x y w => by simp [part, Sem.run_bind, hA]
  rw [show (forIn [:2] ((none, ()) : Option Bool × Unit)) = (forIn [0, 1] ((none, ()) : Option Bool × Unit)) from by funext f; rw [Std.Legacy.Range.forIn_eq_forIn_range']; rfl]
  simp only [List.forIn_cons, List.forIn_nil, Sem.run_bind, hp, hp1, hI, Result.andThen_ok]
  cases h1 : a == c <;> cases h2 : b == e <;> simp [h2, hp1, hI, Sem.run_bind, hp]
theorem run_eq_pair (a b c e : Int) (w : World) : (Op.equalIn 10000 60 (.agg #[.int .i64 a, .int .i64 b]) (.agg #[.int .i64 c, .int .i64 e])).run Tryz.prog w = .ok (a == c && b == e) w := run_eq_pair_d 9998 a b c e w
set_option maxHeartbeats 1000000 in
theorem index_pair (ao : Option Addr) (n cp : Nat) (hn : n ≤ 100000) (f : Nat → Int × Int) (v : Int × Int) (w : World)
    (hs : SlAt w ao n 2 (fun i j => .int .i64 (if j = 0 then (f i).1 else (f i).2))) :
    Calls Tryz.prog 179 #[.slice ao n cp, .agg #[.int .i64 v.1, .int .i64 v.2]] w fun e w' => e = .returned (.int .i64 (findx (fun i => v.1 == (f i).1 && v.2 == (f i).2) n)) ∧ Below w.heap.size w w' := by
  obtain ⟨p, hp⟩ : ∃ p : Nat → Bool, p = (fun i => v.1 == (f i).1 && v.2 == (f i).2) := ⟨_, rfl⟩
  rw [← hp]
  go_enter Tryz.func179, Tryz.ntmps179
  go_wp2_with fail
  go_loopg [8] n (fun r s8 wr => ∃ i : Nat, i ≤ n ∧ r = n - i ∧ s8 = .int .i64 i ∧ fidx p r i = findx p n ∧ Below (w.heap.size + 1) (w.alloc (.cells #[.int .i64 v.1, .int .i64 v.2] 60)) wr)
  case atStart => exact ⟨0, by omega, rfl, rfl, rfl, Below.refl _ _⟩
  case round =>
    obtain ⟨i, hi, rfl, rfl, he, hb1⟩ := hrel
    have hb : Below w.heap.size w wr := ((Below.refl _ w).alloc (Nat.le_refl _) _).trans (hb1.mono (by omega))
    by_cases hlt : i < n
    · rcases hs.below hb with h0 | ⟨a, off, rfl, hcs⟩
      · omega
      obtain ⟨r, hr⟩ : ∃ r, n - i = r + 1 := ⟨n - i - 1, by omega⟩
      rw [hr, fidx] at he
      have hpi := congrFun hp i
      have HE := Lib.hid he; clear he
      have HR := Lib.hid hr; clear hr
      have HP := Lib.hid hp; clear hp
      have HPI := Lib.hid hpi; clear hpi
      have hlt2 : (i : Int) < n := by omega
      have d0 := hcs i hlt 0 (by omega); have d1 := hcs i hlt 1 (by omega); simp only [Nat.add_zero, if_true, Nat.one_ne_zero, if_false] at d0 d1
      have e0 : wr.cell? ⟨w.heap.size, 0, none⟩ = some (.int .i64 v.1) := (hb1.cell (p := ⟨w.heap.size, 0, none⟩) (by show w.heap.size < _; omega)).trans (cell_of (heap_new w _))
      have e1 : wr.cell? ⟨w.heap.size, 1, none⟩ = some (.int .i64 v.2) := (hb1.cell (p := ⟨w.heap.size, 1, none⟩) (by show w.heap.size < _; omega)).trans (cell_of (heap_new w _))
      have heq := run_eq_pair v.1 v.2 (f i).1 (f i).2
      clear hcs
      go_wp2_with fail
      go_region
      all_goals (go_wp2_with fail)
      · have h : p i = true := HPI.out.trans (by rename_i hh; rw [hh.1, hh.2]; rfl)
        go_ret
        exact ⟨congrArg (fun z => Ending.returned (.int .i64 z)) (by rw [← HE.out, h]; rfl), hb.drew⟩
      · have h : p i = false := HPI.out.trans (by rename_i hh; rcases hh with hh | hh <;> simp [hh])
        go_roundg r
        case measure => have := HR.out; omega
        case rel => exact ⟨i + 1, by omega, by have := HR.out; omega, by go_num, by rw [← HE.out, h]; rfl, hb1.drew⟩
    · obtain rfl : i = n := by omega
      go_wp2
      go_ret
      rw [Nat.sub_self] at he
      exact ⟨by rw [← he]; rfl, hb⟩


set_option maxHeartbeats 1000000 in
theorem contains_pair (ao : Option Addr) (n cp : Nat) (hn : n ≤ 100000) (f : Nat → Int × Int) (v : Int × Int) (w : World)
    (hs : SlAt w ao n 2 (fun i j => .int .i64 (if j = 0 then (f i).1 else (f i).2))) :
    Calls Tryz.prog 124 #[.slice ao n cp, .agg #[.int .i64 v.1, .int .i64 v.2]] w fun e w' => e = .returned (.bool (anyx (fun i => v.1 == (f i).1 && v.2 == (f i).2) n)) ∧ Below w.heap.size w w' := by
  have hI := fun W h => index_pair ao n cp hn f v W h
  unfold anyx
  generalize findx (fun i => v.1 == (f i).1 && v.2 == (f i).2) n = r at hI ⊢
  go_enter Tryz.func124, Tryz.ntmps124
  go_wp2_with fail
  refine (hI _ (hs.below ((Below.refl _ w).alloc (Nat.le_refl _) _))).mono ?_
  rintro e w1 ⟨rfl, hb⟩
  by_cases hr : 0 ≤ r
  · go_wp2_with fail
    go_ret
    exact ⟨by simp [hr], by (repeat first | exact Below.refl _ _ | assumption | refine Below.alloc ?_ (by simp; try omega) _ | refine Below.drew ?_ | refine Below.drewN ?_ _ | refine Below.setCell ?_ (by simp; try omega) _ | refine Below.trans ?_ (Below.mono (by assumption) (by simp; try omega)))⟩
  · go_wp2_with fail
    go_ret
    exact ⟨by simp [hr], by (repeat first | exact Below.refl _ _ | assumption | refine Below.alloc ?_ (by simp; try omega) _ | refine Below.drew ?_ | refine Below.drewN ?_ _ | refine Below.setCell ?_ (by simp; try omega) _ | refine Below.trans ?_ (Below.mono (by assumption) (by simp; try omega)))⟩
end Go.Proofs.YteblahoijolegaaGreatDoor
end
section
set_option linter.all false
namespace Go.Proofs.YteblahoijolegaaGreatDoor
open Go.RowKit

/-- n elements of k cells, in a row -/
def flat (c : Nat → Nat → Value) (n k : Nat) : List Value := (List.range (n * k)).map fun q => c (q / k) (q % k)
theorem flat_len (c : Nat → Nat → Value) (n k : Nat) : (flat c n k).length = n * k := by simp [flat]
theorem flat_get (c : Nat → Nat → Value) (n k q : Nat) (h : q < n * k) : (flat c n k)[q]? = some (c (q / k) (q % k)) := by simp [flat, h]
theorem addr_add (a off j : Nat) : Addr.add ⟨a, off, none⟩ j = ⟨a, off + j, none⟩ := by
  unfold Addr.add; split
  · next h => subst h; rfl
  · rfl
theorem div_mod_at (q k : Nat) : q / k * k + q % k = q := by rw [Nat.mul_comm]; exact Nat.div_add_mod q k
theorem lt_div {q n k : Nat} (hk : 0 < k) (h : q < n * k) : q / k < n := Nat.div_lt_of_lt_mul (by rw [Nat.mul_comm]; exact h)
/-- a slice of the call's own, as elements -/
theorem slAt_of_own {w : World} {base : Nat} {e : TypeId} {k n : Nat} {v : Value} {c : Nat → Nat → Value} (hk : 0 < k) (h : w.ownsRow base e k v n (flat c n k)) :
    ∃ ao cp, v = .slice ao n cp ∧ SlAt w ao n k c ∧ (ao = none → n = 0) ∧ n ≤ cp ∧ ∀ a, ao = some a → base ≤ a.block ∧ a.block < w.heap.size := by
  rcases h.2 with ⟨rfl, rfl⟩ | ⟨g, cap, cur, rfl, hg, hh, hn, hm, hs, ht⟩
  · exact ⟨none, 0, rfl, .inl rfl, fun _ => rfl, Nat.le_refl _, fun a h => by simp at h⟩
  · refine ⟨some ⟨g, 0, none⟩, cap, rfl, .inr ⟨g, 0, rfl, fun i hi j hj => ?_⟩, fun h => by simp at h, hn, fun a h => by simp at h; subst h; exact ⟨hg, (Array.getElem?_eq_some_iff.1 hh).1⟩⟩
    rw [cell_of hh]
    have hq : i * k + j < n * k := by
      have : (i + 1) * k ≤ n * k := Nat.mul_le_mul_right k hi
      rw [Nat.add_mul] at this; omega
    have h1 : (cur.toList.take (n * k))[i * k + j]? = some (c i j) := by
      rw [ht, flat_get _ _ _ _ hq]
      rw [show (i * k + j) / k = i from by rw [Nat.mul_comm, Nat.mul_add_div hk, Nat.div_eq_of_lt hj, Nat.add_zero], show (i * k + j) % k = j from by rw [Nat.mul_comm, Nat.mul_add_mod, Nat.mod_eq_of_lt hj]]
    rw [List.getElem?_take_of_lt hq] at h1
    simpa using h1

theorem cell_alloc_add {w : World} {a : Addr} {u : Value} {o : Obj} (h : w.cell? a = some u) : (w.alloc o).cell? a = some u := (World.cell?_alloc_lt w o a (World.block_lt_of_cell? w _ h)).trans h
theorem info_string : (Tryz.prog.info? 9).map (fun i => (i.zero, i.size, i.bytes)) = some (some (.string ⟨#[]⟩), 1, 16) := by kernel_rfl
set_option maxHeartbeats 1000000 in
theorem clone_string (ao : Option Addr) (n cp : Nat) (hn : n ≤ 100000) (hno : ao = none → n = 0 ∧ cp = 0) (hsp : ∀ a, ao = some a → a.spot = none) (c : Nat → Nat → Value) (h1 : ∀ i j, (c i j).oneCell' = true) (w : World) (hs : SlAt w ao n 1 c) :
    Calls Tryz.prog 65 #[.slice ao n cp] w fun e w' => ∃ v, e = .returned v ∧ w'.ownsRow w.heap.size 9 1 v n (flat c n 1) ∧ Below w.heap.size w w' := by
  rcases ao with _ | a
  · obtain ⟨rfl, rfl⟩ := hno rfl
    clear hno hsp hn h1 hs
    have he := fun w => Lib.run_eql_slice_nil (P := Tryz.prog) w 22 9 none 0 0 0 0 Tryz.underlying22
    go_enter Tryz.func65, Tryz.ntmps65
    go_wp2
    go_ret
    exact ⟨_, rfl, by simpa [flat] using World.ownsRow_nil w _ _ _, Below.refl _ _⟩
  · obtain ⟨ab, aoff, asp⟩ := a
    obtain rfl : asp = none := hsp _ rfl
    obtain ⟨i0, hi, hz0, hz1, hz2⟩ := info_parts info_string
    have hcells : ∀ (j : Nat) (u : Value), (flat c n 1)[j]? = some u → w.cell? (Addr.add ⟨ab, aoff, none⟩ j) = some u := by
      intro j u hu
      have hj : j < n * 1 := by
        have := (List.getElem?_eq_some_iff.1 hu).1
        rwa [flat_len] at this
      rw [flat_get _ _ _ _ hj] at hu
      rcases hs with h0 | ⟨a, off, hao, hcs⟩
      · subst h0; simp at hj
      · cases hao
        have := hcs (j / 1) (lt_div (by omega) hj) (j % 1) (Nat.mod_lt _ (by omega))
        rw [addr_add, ← hu, ← this, Nat.add_assoc, div_mod_at]
    have hone : ∀ u ∈ flat c n 1, u.oneCell' = true := by
      intro u hu
      simp only [flat, List.mem_map] at hu
      obtain ⟨q, _, rfl⟩ := hu
      exact h1 _ _
    have hm1 : 0 + n ≤ maxLen := le_maxLen (by omega)
    have hm2 : (0 + n) * 16 ≤ 140737488355328 := by omega
    have HM1 := Lib.hid hm1; clear hm1
    have HM2 := Lib.hid hm2; clear hm2
    have HC := Lib.hid hcells; clear hcells
    have HO := Lib.hid hone; clear hone h1 hs hn hno hsp
    have he := fun w => Lib.run_eql_slice_nil (P := Tryz.prog) w 22 9 (some ⟨ab, aoff, none⟩) n cp 0 0 Tryz.underlying22
    have hown0 : (w.alloc (.cells #[] 9)).ownsRow w.heap.size 9 1 (.slice (some ⟨w.heap.size, 0, none⟩) 0 0) 0 [] := World.ownsRow_made w #[] 0 (Nat.le_refl _) (by simp) (by simp)
    go_enter Tryz.func65, Tryz.ntmps65
    go_wp2_with (at_builtin; refine wpList_append_own _ rfl _ _ 22 rfl w.heap.size 9 i0 (.string ⟨#[]⟩) 1 16 Tryz.underlying22 hi hz0 hz1 hz2 rfl (by decide) _ _ _ rfl hown0 ⟨ab, aoff, none⟩ n cp (flat c n 1) rfl (flat_len _ _ _) (fun j u h => (cell_alloc_add (HC.out j u h))) HO.out HM1.out HM2.out (by simp) ?_; intro v' w1 hown' hgrow _)
    go_ret
    exact ⟨v', rfl, by simpa using hown', ((Below.refl _ w).alloc (Nat.le_refl _) _).grown hgrow (by simp) (by intro k hk; cases hk; exact Nat.le_refl _)⟩
theorem info_pair : (Tryz.prog.info? 60).map (fun i => (i.zero, i.size, i.bytes)) = some (some (.agg #[.int .i64 0, .int .i64 0]), 2, 16) := by kernel_rfl
set_option maxHeartbeats 1000000 in
theorem clone_pair (ao : Option Addr) (n cp : Nat) (hn : n ≤ 100000) (hno : ao = none → n = 0 ∧ cp = 0) (hsp : ∀ a, ao = some a → a.spot = none) (c : Nat → Nat → Value) (h1 : ∀ i j, (c i j).oneCell' = true) (w : World) (hs : SlAt w ao n 2 c) :
    Calls Tryz.prog 66 #[.slice ao n cp] w fun e w' => ∃ v, e = .returned v ∧ w'.ownsRow w.heap.size 60 2 v n (flat c n 2) ∧ Below w.heap.size w w' := by
  rcases ao with _ | a
  · obtain ⟨rfl, rfl⟩ := hno rfl
    clear hno hsp hn h1 hs
    have he := fun w => Lib.run_eql_slice_nil (P := Tryz.prog) w 23 60 none 0 0 0 0 Tryz.underlying23
    go_enter Tryz.func66, Tryz.ntmps66
    go_wp2
    go_ret
    exact ⟨_, rfl, by simpa [flat] using World.ownsRow_nil w _ _ _, Below.refl _ _⟩
  · obtain ⟨ab, aoff, asp⟩ := a
    obtain rfl : asp = none := hsp _ rfl
    obtain ⟨i0, hi, hz0, hz1, hz2⟩ := info_parts info_pair
    have hcells : ∀ (j : Nat) (u : Value), (flat c n 2)[j]? = some u → w.cell? (Addr.add ⟨ab, aoff, none⟩ j) = some u := by
      intro j u hu
      have hj : j < n * 2 := by
        have := (List.getElem?_eq_some_iff.1 hu).1
        rwa [flat_len] at this
      rw [flat_get _ _ _ _ hj] at hu
      rcases hs with h0 | ⟨a, off, hao, hcs⟩
      · subst h0; simp at hj
      · cases hao
        have := hcs (j / 2) (lt_div (by omega) hj) (j % 2) (Nat.mod_lt _ (by omega))
        rw [addr_add, ← hu, ← this, Nat.add_assoc, div_mod_at]
    have hone : ∀ u ∈ flat c n 2, u.oneCell' = true := by
      intro u hu
      simp only [flat, List.mem_map] at hu
      obtain ⟨q, _, rfl⟩ := hu
      exact h1 _ _
    have hm1 : 0 + n ≤ maxLen := le_maxLen (by omega)
    have hm2 : (0 + n) * 16 ≤ 140737488355328 := by omega
    have HM1 := Lib.hid hm1; clear hm1
    have HM2 := Lib.hid hm2; clear hm2
    have HC := Lib.hid hcells; clear hcells
    have HO := Lib.hid hone; clear hone h1 hs hn hno hsp
    have he := fun w => Lib.run_eql_slice_nil (P := Tryz.prog) w 23 60 (some ⟨ab, aoff, none⟩) n cp 0 0 Tryz.underlying23
    have hown0 : (w.alloc (.cells #[] 60)).ownsRow w.heap.size 60 2 (.slice (some ⟨w.heap.size, 0, none⟩) 0 0) 0 [] := World.ownsRow_made w #[] 0 (Nat.le_refl _) (by simp) (by simp)
    go_enter Tryz.func66, Tryz.ntmps66
    go_wp2_with (at_builtin; refine wpList_append_own _ rfl _ _ 23 rfl w.heap.size 60 i0 (.agg #[.int .i64 0, .int .i64 0]) 2 16 Tryz.underlying23 hi hz0 hz1 hz2 rfl (by decide) _ _ _ rfl hown0 ⟨ab, aoff, none⟩ n cp (flat c n 2) rfl (flat_len _ _ _) (fun j u h => (cell_alloc_add (HC.out j u h))) HO.out HM1.out HM2.out (by simp) ?_; intro v' w1 hown' hgrow _)
    go_ret
    exact ⟨v', rfl, by simpa using hown', ((Below.refl _ w).alloc (Nat.le_refl _) _).grown hgrow (by simp) (by intro k hk; cases hk; exact Nat.le_refl _)⟩
theorem info_source : (Tryz.prog.info? 96).map (fun i => (i.zero, i.size, i.bytes)) = some (some (.agg #[.string ⟨#[]⟩, .int .i64 0, .int .i64 0]), 3, 32) := by kernel_rfl
set_option maxHeartbeats 1000000 in
theorem clone_source (ao : Option Addr) (n cp : Nat) (hn : n ≤ 100000) (hno : ao = none → n = 0 ∧ cp = 0) (hsp : ∀ a, ao = some a → a.spot = none) (c : Nat → Nat → Value) (h1 : ∀ i j, (c i j).oneCell' = true) (w : World) (hs : SlAt w ao n 3 c) :
    Calls Tryz.prog 67 #[.slice ao n cp] w fun e w' => ∃ v, e = .returned v ∧ w'.ownsRow w.heap.size 96 3 v n (flat c n 3) ∧ Below w.heap.size w w' := by
  rcases ao with _ | a
  · obtain ⟨rfl, rfl⟩ := hno rfl
    clear hno hsp hn h1 hs
    have he := fun w => Lib.run_eql_slice_nil (P := Tryz.prog) w 24 96 none 0 0 0 0 Tryz.underlying24
    go_enter Tryz.func67, Tryz.ntmps67
    go_wp2
    go_ret
    exact ⟨_, rfl, by simpa [flat] using World.ownsRow_nil w _ _ _, Below.refl _ _⟩
  · obtain ⟨ab, aoff, asp⟩ := a
    obtain rfl : asp = none := hsp _ rfl
    obtain ⟨i0, hi, hz0, hz1, hz2⟩ := info_parts info_source
    have hcells : ∀ (j : Nat) (u : Value), (flat c n 3)[j]? = some u → w.cell? (Addr.add ⟨ab, aoff, none⟩ j) = some u := by
      intro j u hu
      have hj : j < n * 3 := by
        have := (List.getElem?_eq_some_iff.1 hu).1
        rwa [flat_len] at this
      rw [flat_get _ _ _ _ hj] at hu
      rcases hs with h0 | ⟨a, off, hao, hcs⟩
      · subst h0; simp at hj
      · cases hao
        have := hcs (j / 3) (lt_div (by omega) hj) (j % 3) (Nat.mod_lt _ (by omega))
        rw [addr_add, ← hu, ← this, Nat.add_assoc, div_mod_at]
    have hone : ∀ u ∈ flat c n 3, u.oneCell' = true := by
      intro u hu
      simp only [flat, List.mem_map] at hu
      obtain ⟨q, _, rfl⟩ := hu
      exact h1 _ _
    have hm1 : 0 + n ≤ maxLen := le_maxLen (by omega)
    have hm2 : (0 + n) * 32 ≤ 140737488355328 := by omega
    have HM1 := Lib.hid hm1; clear hm1
    have HM2 := Lib.hid hm2; clear hm2
    have HC := Lib.hid hcells; clear hcells
    have HO := Lib.hid hone; clear hone h1 hs hn hno hsp
    have he := fun w => Lib.run_eql_slice_nil (P := Tryz.prog) w 24 96 (some ⟨ab, aoff, none⟩) n cp 0 0 Tryz.underlying24
    have hown0 : (w.alloc (.cells #[] 96)).ownsRow w.heap.size 96 3 (.slice (some ⟨w.heap.size, 0, none⟩) 0 0) 0 [] := World.ownsRow_made w #[] 0 (Nat.le_refl _) (by simp) (by simp)
    go_enter Tryz.func67, Tryz.ntmps67
    go_wp2_with (at_builtin; refine wpList_append_own _ rfl _ _ 24 rfl w.heap.size 96 i0 (.agg #[.string ⟨#[]⟩, .int .i64 0, .int .i64 0]) 3 32 Tryz.underlying24 hi hz0 hz1 hz2 rfl (by decide) _ _ _ rfl hown0 ⟨ab, aoff, none⟩ n cp (flat c n 3) rfl (flat_len _ _ _) (fun j u h => (cell_alloc_add (HC.out j u h))) HO.out HM1.out HM2.out (by simp) ?_; intro v' w1 hown' hgrow _)
    go_ret
    exact ⟨v', rfl, by simpa using hown', ((Below.refl _ w).alloc (Nat.le_refl _) _).grown hgrow (by simp) (by intro k hk; cases hk; exact Nat.le_refl _)⟩
theorem info_dest : (Tryz.prog.info? 100).map (fun i => (i.zero, i.size, i.bytes)) = some (some (.agg #[.string ⟨#[]⟩, .int .i64 0]), 2, 24) := by kernel_rfl
set_option maxHeartbeats 1000000 in
theorem clone_dest (ao : Option Addr) (n cp : Nat) (hn : n ≤ 100000) (hno : ao = none → n = 0 ∧ cp = 0) (hsp : ∀ a, ao = some a → a.spot = none) (c : Nat → Nat → Value) (h1 : ∀ i j, (c i j).oneCell' = true) (w : World) (hs : SlAt w ao n 2 c) :
    Calls Tryz.prog 68 #[.slice ao n cp] w fun e w' => ∃ v, e = .returned v ∧ w'.ownsRow w.heap.size 100 2 v n (flat c n 2) ∧ Below w.heap.size w w' := by
  rcases ao with _ | a
  · obtain ⟨rfl, rfl⟩ := hno rfl
    clear hno hsp hn h1 hs
    have he := fun w => Lib.run_eql_slice_nil (P := Tryz.prog) w 25 100 none 0 0 0 0 Tryz.underlying25
    go_enter Tryz.func68, Tryz.ntmps68
    go_wp2
    go_ret
    exact ⟨_, rfl, by simpa [flat] using World.ownsRow_nil w _ _ _, Below.refl _ _⟩
  · obtain ⟨ab, aoff, asp⟩ := a
    obtain rfl : asp = none := hsp _ rfl
    obtain ⟨i0, hi, hz0, hz1, hz2⟩ := info_parts info_dest
    have hcells : ∀ (j : Nat) (u : Value), (flat c n 2)[j]? = some u → w.cell? (Addr.add ⟨ab, aoff, none⟩ j) = some u := by
      intro j u hu
      have hj : j < n * 2 := by
        have := (List.getElem?_eq_some_iff.1 hu).1
        rwa [flat_len] at this
      rw [flat_get _ _ _ _ hj] at hu
      rcases hs with h0 | ⟨a, off, hao, hcs⟩
      · subst h0; simp at hj
      · cases hao
        have := hcs (j / 2) (lt_div (by omega) hj) (j % 2) (Nat.mod_lt _ (by omega))
        rw [addr_add, ← hu, ← this, Nat.add_assoc, div_mod_at]
    have hone : ∀ u ∈ flat c n 2, u.oneCell' = true := by
      intro u hu
      simp only [flat, List.mem_map] at hu
      obtain ⟨q, _, rfl⟩ := hu
      exact h1 _ _
    have hm1 : 0 + n ≤ maxLen := le_maxLen (by omega)
    have hm2 : (0 + n) * 24 ≤ 140737488355328 := by omega
    have HM1 := Lib.hid hm1; clear hm1
    have HM2 := Lib.hid hm2; clear hm2
    have HC := Lib.hid hcells; clear hcells
    have HO := Lib.hid hone; clear hone h1 hs hn hno hsp
    have he := fun w => Lib.run_eql_slice_nil (P := Tryz.prog) w 25 100 (some ⟨ab, aoff, none⟩) n cp 0 0 Tryz.underlying25
    have hown0 : (w.alloc (.cells #[] 100)).ownsRow w.heap.size 100 2 (.slice (some ⟨w.heap.size, 0, none⟩) 0 0) 0 [] := World.ownsRow_made w #[] 0 (Nat.le_refl _) (by simp) (by simp)
    go_enter Tryz.func68, Tryz.ntmps68
    go_wp2_with (at_builtin; refine wpList_append_own _ rfl _ _ 25 rfl w.heap.size 100 i0 (.agg #[.string ⟨#[]⟩, .int .i64 0]) 2 24 Tryz.underlying25 hi hz0 hz1 hz2 rfl (by decide) _ _ _ rfl hown0 ⟨ab, aoff, none⟩ n cp (flat c n 2) rfl (flat_len _ _ _) (fun j u h => (cell_alloc_add (HC.out j u h))) HO.out HM1.out HM2.out (by simp) ?_; intro v' w1 hown' hgrow _)
    go_ret
    exact ⟨v', rfl, by simpa using hown', ((Below.refl _ w).alloc (Nat.le_refl _) _).grown hgrow (by simp) (by intro k hk; cases hk; exact Nat.le_refl _)⟩
theorem info_work : (Tryz.prog.info? 62).map (fun i => (i.zero, i.size, i.bytes)) = some (some (.agg #[.string ⟨#[]⟩, .int .i64 0, .int .i64 0]), 3, 32) := by kernel_rfl
set_option maxHeartbeats 1000000 in
theorem clone_work (ao : Option Addr) (n cp : Nat) (hn : n ≤ 100000) (hno : ao = none → n = 0 ∧ cp = 0) (hsp : ∀ a, ao = some a → a.spot = none) (c : Nat → Nat → Value) (h1 : ∀ i j, (c i j).oneCell' = true) (w : World) (hs : SlAt w ao n 3 c) :
    Calls Tryz.prog 69 #[.slice ao n cp] w fun e w' => ∃ v, e = .returned v ∧ w'.ownsRow w.heap.size 62 3 v n (flat c n 3) ∧ Below w.heap.size w w' := by
  rcases ao with _ | a
  · obtain ⟨rfl, rfl⟩ := hno rfl
    clear hno hsp hn h1 hs
    have he := fun w => Lib.run_eql_slice_nil (P := Tryz.prog) w 26 62 none 0 0 0 0 Tryz.underlying26
    go_enter Tryz.func69, Tryz.ntmps69
    go_wp2
    go_ret
    exact ⟨_, rfl, by simpa [flat] using World.ownsRow_nil w _ _ _, Below.refl _ _⟩
  · obtain ⟨ab, aoff, asp⟩ := a
    obtain rfl : asp = none := hsp _ rfl
    obtain ⟨i0, hi, hz0, hz1, hz2⟩ := info_parts info_work
    have hcells : ∀ (j : Nat) (u : Value), (flat c n 3)[j]? = some u → w.cell? (Addr.add ⟨ab, aoff, none⟩ j) = some u := by
      intro j u hu
      have hj : j < n * 3 := by
        have := (List.getElem?_eq_some_iff.1 hu).1
        rwa [flat_len] at this
      rw [flat_get _ _ _ _ hj] at hu
      rcases hs with h0 | ⟨a, off, hao, hcs⟩
      · subst h0; simp at hj
      · cases hao
        have := hcs (j / 3) (lt_div (by omega) hj) (j % 3) (Nat.mod_lt _ (by omega))
        rw [addr_add, ← hu, ← this, Nat.add_assoc, div_mod_at]
    have hone : ∀ u ∈ flat c n 3, u.oneCell' = true := by
      intro u hu
      simp only [flat, List.mem_map] at hu
      obtain ⟨q, _, rfl⟩ := hu
      exact h1 _ _
    have hm1 : 0 + n ≤ maxLen := le_maxLen (by omega)
    have hm2 : (0 + n) * 32 ≤ 140737488355328 := by omega
    have HM1 := Lib.hid hm1; clear hm1
    have HM2 := Lib.hid hm2; clear hm2
    have HC := Lib.hid hcells; clear hcells
    have HO := Lib.hid hone; clear hone h1 hs hn hno hsp
    have he := fun w => Lib.run_eql_slice_nil (P := Tryz.prog) w 26 62 (some ⟨ab, aoff, none⟩) n cp 0 0 Tryz.underlying26
    have hown0 : (w.alloc (.cells #[] 62)).ownsRow w.heap.size 62 3 (.slice (some ⟨w.heap.size, 0, none⟩) 0 0) 0 [] := World.ownsRow_made w #[] 0 (Nat.le_refl _) (by simp) (by simp)
    go_enter Tryz.func69, Tryz.ntmps69
    go_wp2_with (at_builtin; refine wpList_append_own _ rfl _ _ 26 rfl w.heap.size 62 i0 (.agg #[.string ⟨#[]⟩, .int .i64 0, .int .i64 0]) 3 32 Tryz.underlying26 hi hz0 hz1 hz2 rfl (by decide) _ _ _ rfl hown0 ⟨ab, aoff, none⟩ n cp (flat c n 3) rfl (flat_len _ _ _) (fun j u h => (cell_alloc_add (HC.out j u h))) HO.out HM1.out HM2.out (by simp) ?_; intro v' w1 hown' hgrow _)
    go_ret
    exact ⟨v', rfl, by simpa using hown', ((Below.refl _ w).alloc (Nat.le_refl _) _).grown hgrow (by simp) (by intro k hk; cases hk; exact Nat.le_refl _)⟩
theorem info_route : (Tryz.prog.info? 130).map (fun i => (i.zero, i.size, i.bytes)) = some (some (.agg #[.string ⟨#[]⟩, .string ⟨#[]⟩, .int .i64 0, .int .i64 0]), 4, 48) := by kernel_rfl
set_option maxHeartbeats 1000000 in
theorem clone_route (ao : Option Addr) (n cp : Nat) (hn : n ≤ 100000) (hno : ao = none → n = 0 ∧ cp = 0) (hsp : ∀ a, ao = some a → a.spot = none) (c : Nat → Nat → Value) (h1 : ∀ i j, (c i j).oneCell' = true) (w : World) (hs : SlAt w ao n 4 c) :
    Calls Tryz.prog 70 #[.slice ao n cp] w fun e w' => ∃ v, e = .returned v ∧ w'.ownsRow w.heap.size 130 4 v n (flat c n 4) ∧ Below w.heap.size w w' := by
  rcases ao with _ | a
  · obtain ⟨rfl, rfl⟩ := hno rfl
    clear hno hsp hn h1 hs
    have he := fun w => Lib.run_eql_slice_nil (P := Tryz.prog) w 27 130 none 0 0 0 0 Tryz.underlying27
    go_enter Tryz.func70, Tryz.ntmps70
    go_wp2
    go_ret
    exact ⟨_, rfl, by simpa [flat] using World.ownsRow_nil w _ _ _, Below.refl _ _⟩
  · obtain ⟨ab, aoff, asp⟩ := a
    obtain rfl : asp = none := hsp _ rfl
    obtain ⟨i0, hi, hz0, hz1, hz2⟩ := info_parts info_route
    have hcells : ∀ (j : Nat) (u : Value), (flat c n 4)[j]? = some u → w.cell? (Addr.add ⟨ab, aoff, none⟩ j) = some u := by
      intro j u hu
      have hj : j < n * 4 := by
        have := (List.getElem?_eq_some_iff.1 hu).1
        rwa [flat_len] at this
      rw [flat_get _ _ _ _ hj] at hu
      rcases hs with h0 | ⟨a, off, hao, hcs⟩
      · subst h0; simp at hj
      · cases hao
        have := hcs (j / 4) (lt_div (by omega) hj) (j % 4) (Nat.mod_lt _ (by omega))
        rw [addr_add, ← hu, ← this, Nat.add_assoc, div_mod_at]
    have hone : ∀ u ∈ flat c n 4, u.oneCell' = true := by
      intro u hu
      simp only [flat, List.mem_map] at hu
      obtain ⟨q, _, rfl⟩ := hu
      exact h1 _ _
    have hm1 : 0 + n ≤ maxLen := le_maxLen (by omega)
    have hm2 : (0 + n) * 48 ≤ 140737488355328 := by omega
    have HM1 := Lib.hid hm1; clear hm1
    have HM2 := Lib.hid hm2; clear hm2
    have HC := Lib.hid hcells; clear hcells
    have HO := Lib.hid hone; clear hone h1 hs hn hno hsp
    have he := fun w => Lib.run_eql_slice_nil (P := Tryz.prog) w 27 130 (some ⟨ab, aoff, none⟩) n cp 0 0 Tryz.underlying27
    have hown0 : (w.alloc (.cells #[] 130)).ownsRow w.heap.size 130 4 (.slice (some ⟨w.heap.size, 0, none⟩) 0 0) 0 [] := World.ownsRow_made w #[] 0 (Nat.le_refl _) (by simp) (by simp)
    go_enter Tryz.func70, Tryz.ntmps70
    go_wp2_with (at_builtin; refine wpList_append_own _ rfl _ _ 27 rfl w.heap.size 130 i0 (.agg #[.string ⟨#[]⟩, .string ⟨#[]⟩, .int .i64 0, .int .i64 0]) 4 48 Tryz.underlying27 hi hz0 hz1 hz2 rfl (by decide) _ _ _ rfl hown0 ⟨ab, aoff, none⟩ n cp (flat c n 4) rfl (flat_len _ _ _) (fun j u h => (cell_alloc_add (HC.out j u h))) HO.out HM1.out HM2.out (by simp) ?_; intro v' w1 hown' hgrow _)
    go_ret
    exact ⟨v', rfl, by simpa using hown', ((Below.refl _ w).alloc (Nat.le_refl _) _).grown hgrow (by simp) (by intro k hk; cases hk; exact Nat.le_refl _)⟩
theorem info_grant : (Tryz.prog.info? 53).map (fun i => (i.zero, i.size, i.bytes)) = some (some (.agg #[.string ⟨#[]⟩, .int .i64 0, .int .i64 0, .int .i64 0, .string ⟨#[]⟩]), 5, 56) := by kernel_rfl
set_option maxHeartbeats 1000000 in
theorem clone_grant (ao : Option Addr) (n cp : Nat) (hn : n ≤ 100000) (hno : ao = none → n = 0 ∧ cp = 0) (hsp : ∀ a, ao = some a → a.spot = none) (c : Nat → Nat → Value) (h1 : ∀ i j, (c i j).oneCell' = true) (w : World) (hs : SlAt w ao n 5 c) :
    Calls Tryz.prog 71 #[.slice ao n cp] w fun e w' => ∃ v, e = .returned v ∧ w'.ownsRow w.heap.size 53 5 v n (flat c n 5) ∧ Below w.heap.size w w' := by
  rcases ao with _ | a
  · obtain ⟨rfl, rfl⟩ := hno rfl
    clear hno hsp hn h1 hs
    have he := fun w => Lib.run_eql_slice_nil (P := Tryz.prog) w 28 53 none 0 0 0 0 Tryz.underlying28
    go_enter Tryz.func71, Tryz.ntmps71
    go_wp2
    go_ret
    exact ⟨_, rfl, by simpa [flat] using World.ownsRow_nil w _ _ _, Below.refl _ _⟩
  · obtain ⟨ab, aoff, asp⟩ := a
    obtain rfl : asp = none := hsp _ rfl
    obtain ⟨i0, hi, hz0, hz1, hz2⟩ := info_parts info_grant
    have hcells : ∀ (j : Nat) (u : Value), (flat c n 5)[j]? = some u → w.cell? (Addr.add ⟨ab, aoff, none⟩ j) = some u := by
      intro j u hu
      have hj : j < n * 5 := by
        have := (List.getElem?_eq_some_iff.1 hu).1
        rwa [flat_len] at this
      rw [flat_get _ _ _ _ hj] at hu
      rcases hs with h0 | ⟨a, off, hao, hcs⟩
      · subst h0; simp at hj
      · cases hao
        have := hcs (j / 5) (lt_div (by omega) hj) (j % 5) (Nat.mod_lt _ (by omega))
        rw [addr_add, ← hu, ← this, Nat.add_assoc, div_mod_at]
    have hone : ∀ u ∈ flat c n 5, u.oneCell' = true := by
      intro u hu
      simp only [flat, List.mem_map] at hu
      obtain ⟨q, _, rfl⟩ := hu
      exact h1 _ _
    have hm1 : 0 + n ≤ maxLen := le_maxLen (by omega)
    have hm2 : (0 + n) * 56 ≤ 140737488355328 := by omega
    have HM1 := Lib.hid hm1; clear hm1
    have HM2 := Lib.hid hm2; clear hm2
    have HC := Lib.hid hcells; clear hcells
    have HO := Lib.hid hone; clear hone h1 hs hn hno hsp
    have he := fun w => Lib.run_eql_slice_nil (P := Tryz.prog) w 28 53 (some ⟨ab, aoff, none⟩) n cp 0 0 Tryz.underlying28
    have hown0 : (w.alloc (.cells #[] 53)).ownsRow w.heap.size 53 5 (.slice (some ⟨w.heap.size, 0, none⟩) 0 0) 0 [] := World.ownsRow_made w #[] 0 (Nat.le_refl _) (by simp) (by simp)
    go_enter Tryz.func71, Tryz.ntmps71
    go_wp2_with (at_builtin; refine wpList_append_own _ rfl _ _ 28 rfl w.heap.size 53 i0 (.agg #[.string ⟨#[]⟩, .int .i64 0, .int .i64 0, .int .i64 0, .string ⟨#[]⟩]) 5 56 Tryz.underlying28 hi hz0 hz1 hz2 rfl (by decide) _ _ _ rfl hown0 ⟨ab, aoff, none⟩ n cp (flat c n 5) rfl (flat_len _ _ _) (fun j u h => (cell_alloc_add (HC.out j u h))) HO.out HM1.out HM2.out (by simp) ?_; intro v' w1 hown' hgrow _)
    go_ret
    exact ⟨v', rfl, by simpa using hown', ((Below.refl _ w).alloc (Nat.le_refl _) _).grown hgrow (by simp) (by intro k hk; cases hk; exact Nat.le_refl _)⟩
theorem info_int : (Tryz.prog.info? 3).map (fun i => (i.zero, i.size, i.bytes)) = some (some (.int .i64 0), 1, 8) := by kernel_rfl
set_option maxHeartbeats 1000000 in
theorem clone_int (ao : Option Addr) (n cp : Nat) (hn : n ≤ 100000) (hno : ao = none → n = 0 ∧ cp = 0) (hsp : ∀ a, ao = some a → a.spot = none) (c : Nat → Nat → Value) (h1 : ∀ i j, (c i j).oneCell' = true) (w : World) (hs : SlAt w ao n 1 c) :
    Calls Tryz.prog 222 #[.slice ao n cp] w fun e w' => ∃ v, e = .returned v ∧ w'.ownsRow w.heap.size 3 1 v n (flat c n 1) ∧ Below w.heap.size w w' := by
  rcases ao with _ | a
  · obtain ⟨rfl, rfl⟩ := hno rfl
    clear hno hsp hn h1 hs
    have he := fun w => Lib.run_eql_slice_nil (P := Tryz.prog) w 63 3 none 0 0 0 0 Tryz.underlying63
    go_enter Tryz.func222, Tryz.ntmps222
    go_wp2
    go_ret
    exact ⟨_, rfl, by simpa [flat] using World.ownsRow_nil w _ _ _, Below.refl _ _⟩
  · obtain ⟨ab, aoff, asp⟩ := a
    obtain rfl : asp = none := hsp _ rfl
    obtain ⟨i0, hi, hz0, hz1, hz2⟩ := info_parts info_int
    have hcells : ∀ (j : Nat) (u : Value), (flat c n 1)[j]? = some u → w.cell? (Addr.add ⟨ab, aoff, none⟩ j) = some u := by
      intro j u hu
      have hj : j < n * 1 := by
        have := (List.getElem?_eq_some_iff.1 hu).1
        rwa [flat_len] at this
      rw [flat_get _ _ _ _ hj] at hu
      rcases hs with h0 | ⟨a, off, hao, hcs⟩
      · subst h0; simp at hj
      · cases hao
        have := hcs (j / 1) (lt_div (by omega) hj) (j % 1) (Nat.mod_lt _ (by omega))
        rw [addr_add, ← hu, ← this, Nat.add_assoc, div_mod_at]
    have hone : ∀ u ∈ flat c n 1, u.oneCell' = true := by
      intro u hu
      simp only [flat, List.mem_map] at hu
      obtain ⟨q, _, rfl⟩ := hu
      exact h1 _ _
    have hm1 : 0 + n ≤ maxLen := le_maxLen (by omega)
    have hm2 : (0 + n) * 8 ≤ 140737488355328 := by omega
    have HM1 := Lib.hid hm1; clear hm1
    have HM2 := Lib.hid hm2; clear hm2
    have HC := Lib.hid hcells; clear hcells
    have HO := Lib.hid hone; clear hone h1 hs hn hno hsp
    have he := fun w => Lib.run_eql_slice_nil (P := Tryz.prog) w 63 3 (some ⟨ab, aoff, none⟩) n cp 0 0 Tryz.underlying63
    have hown0 : (w.alloc (.cells #[] 3)).ownsRow w.heap.size 3 1 (.slice (some ⟨w.heap.size, 0, none⟩) 0 0) 0 [] := World.ownsRow_made w #[] 0 (Nat.le_refl _) (by simp) (by simp)
    go_enter Tryz.func222, Tryz.ntmps222
    go_wp2_with (at_builtin; refine wpList_append_own _ rfl _ _ 63 rfl w.heap.size 3 i0 (.int .i64 0) 1 8 Tryz.underlying63 hi hz0 hz1 hz2 rfl (by decide) _ _ _ rfl hown0 ⟨ab, aoff, none⟩ n cp (flat c n 1) rfl (flat_len _ _ _) (fun j u h => (cell_alloc_add (HC.out j u h))) HO.out HM1.out HM2.out (by simp) ?_; intro v' w1 hown' hgrow _)
    go_ret
    exact ⟨v', rfl, by simpa using hown', ((Below.refl _ w).alloc (Nat.le_refl _) _).grown hgrow (by simp) (by intro k hk; cases hk; exact Nat.le_refl _)⟩
end Go.Proofs.YteblahoijolegaaGreatDoor
end
