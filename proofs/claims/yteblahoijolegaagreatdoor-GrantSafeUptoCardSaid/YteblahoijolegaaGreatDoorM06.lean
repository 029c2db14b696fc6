import Derived.Test.YteblahoijolegaaGreatDoorM05
section
set_option linter.all false
namespace Go.Proofs.YteblahoijolegaaGreatDoor
open Go.RowKit

/-- a lattice's cell number q -/
def latCell (nm ord : Value) (d s m : Int) (jf mf : Nat → Int) (lo hi : Int) (q : Nat) : Value :=
  if q = 0 then nm else if q = 1 then ord else if q = 2 then .int .u32 d else if q = 3 then .int .i32 s else if q = 4 then .int .u32 m
  else if q < 105 then .int .i64 (jf (q - 5)) else if q < 205 then .int .i64 (mf (q - 105)) else if q = 205 then .int .i64 lo else .int .i64 hi
def latArr (nm ord : Value) (d s m : Int) (jf mf : Nat → Int) (lo hi : Int) : Array Value := (Array.range 207).map (latCell nm ord d s m jf mf lo hi)
def upd (f : Nat → Int) (q : Nat) (x : Int) : Nat → Int := fun i => if i = q then x else f i
theorem lat_size (nm ord : Value) (d s m : Int) (jf mf : Nat → Int) (lo hi : Int) : (latArr nm ord d s m jf mf lo hi).size = 207 := by simp [latArr]
theorem lat_get (nm ord : Value) (d s m : Int) (jf mf : Nat → Int) (lo hi : Int) (q : Nat) (h : q < 207) : (latArr nm ord d s m jf mf lo hi)[q]? = some (latCell nm ord d s m jf mf lo hi q) := by
  simp [latArr, h]
theorem lat_ext {A B : Array Value} {k : Nat} {v : Value} (hA : A.size = 207) (hB : B.size = 207) (hk : k < 207) (h1 : B[k]? = some v) (h2 : ∀ q, q < 207 → q ≠ k → A[q]? = B[q]?) : A.setIfInBounds k v = B := by
  apply Array.ext_getElem?
  intro q
  by_cases hq : q < 207
  · by_cases e : q = k
    · subst e; rw [Array.getElem?_setIfInBounds_self_of_lt (by omega), h1]
    · rw [Array.getElem?_setIfInBounds_ne (by omega)]; exact h2 q hq e
  · rw [Array.getElem?_eq_none (by simp; omega), Array.getElem?_eq_none (by omega)]
theorem lat_set_j (nm ord : Value) (d s m : Int) (jf mf : Nat → Int) (lo hi x : Int) (q : Nat) (h : q < 100) : (latArr nm ord d s m jf mf lo hi).setIfInBounds (5 + q) (.int .i64 x) = latArr nm ord d s m (upd jf q x) mf lo hi := by
  refine lat_ext (lat_size ..) (lat_size ..) (by omega) ?_ (fun i hi hne => ?_)
  · rw [lat_get _ _ _ _ _ _ _ _ _ _ (by omega)]; simp only [latCell]; rw [if_neg (by omega), if_neg (by omega), if_neg (by omega), if_neg (by omega), if_neg (by omega), if_pos (by omega)]; simp [upd]
  · rw [lat_get _ _ _ _ _ _ _ _ _ _ hi, lat_get _ _ _ _ _ _ _ _ _ _ hi]; simp only [latCell, upd]
    repeat' split
    all_goals first | rfl | omega
theorem lat_set_m (nm ord : Value) (d s m : Int) (jf mf : Nat → Int) (lo hi x : Int) (q : Nat) (h : q < 100) : (latArr nm ord d s m jf mf lo hi).setIfInBounds (105 + q) (.int .i64 x) = latArr nm ord d s m jf (upd mf q x) lo hi := by
  refine lat_ext (lat_size ..) (lat_size ..) (by omega) ?_ (fun i hi hne => ?_)
  · rw [lat_get _ _ _ _ _ _ _ _ _ _ (by omega)]; simp only [latCell]; rw [if_neg (by omega), if_neg (by omega), if_neg (by omega), if_neg (by omega), if_neg (by omega), if_neg (by omega), if_pos (by omega)]; simp [upd]
  · rw [lat_get _ _ _ _ _ _ _ _ _ _ hi, lat_get _ _ _ _ _ _ _ _ _ _ hi]; simp only [latCell, upd]
    repeat' split
    all_goals first | rfl | omega
theorem lat_set_lo (nm ord : Value) (d s m : Int) (jf mf : Nat → Int) (lo hi x : Int) : (latArr nm ord d s m jf mf lo hi).setIfInBounds 205 (.int .i64 x) = latArr nm ord d s m jf mf x hi := by
  refine lat_ext (lat_size ..) (lat_size ..) (by omega) (lat_get _ _ _ _ _ _ _ _ _ _ (by omega)) (fun i hi hne => ?_)
  rw [lat_get _ _ _ _ _ _ _ _ _ _ hi, lat_get _ _ _ _ _ _ _ _ _ _ hi]; simp only [latCell]
  repeat' split
  all_goals first | rfl | omega
theorem lat_set_hi (nm ord : Value) (d s m : Int) (jf mf : Nat → Int) (lo hi x : Int) : (latArr nm ord d s m jf mf lo hi).setIfInBounds 206 (.int .i64 x) = latArr nm ord d s m jf mf lo x := by
  refine lat_ext (lat_size ..) (lat_size ..) (by omega) (lat_get _ _ _ _ _ _ _ _ _ _ (by omega)) (fun i hi hne => ?_)
  rw [lat_get _ _ _ _ _ _ _ _ _ _ hi, lat_get _ _ _ _ _ _ _ _ _ _ hi]; simp only [latCell]
  repeat' split
  all_goals first | rfl | omega
theorem lat_set_d (nm ord : Value) (d s m : Int) (jf mf : Nat → Int) (lo hi x : Int) : (latArr nm ord d s m jf mf lo hi).setIfInBounds 2 (.int .u32 x) = latArr nm ord x s m jf mf lo hi := by
  refine lat_ext (lat_size ..) (lat_size ..) (by omega) (lat_get _ _ _ _ _ _ _ _ _ _ (by omega)) (fun i hi hne => ?_)
  rw [lat_get _ _ _ _ _ _ _ _ _ _ hi, lat_get _ _ _ _ _ _ _ _ _ _ hi]; simp only [latCell]
  repeat' split
  all_goals first | rfl | omega
theorem lat_set_s (nm ord : Value) (d s m : Int) (jf mf : Nat → Int) (lo hi x : Int) : (latArr nm ord d s m jf mf lo hi).setIfInBounds 3 (.int .i32 x) = latArr nm ord d x m jf mf lo hi := by
  refine lat_ext (lat_size ..) (lat_size ..) (by omega) (lat_get _ _ _ _ _ _ _ _ _ _ (by omega)) (fun i hi hne => ?_)
  rw [lat_get _ _ _ _ _ _ _ _ _ _ hi, lat_get _ _ _ _ _ _ _ _ _ _ hi]; simp only [latCell]
  repeat' split
  all_goals first | rfl | omega

/-- a lattice in memory -/
def LatMem (w : World) (l : Nat) (nm ord : Value) (d s m : Int) (jf mf : Nat → Int) (lo hi : Int) : Prop := w.heap[l]? = some (.cells (latArr nm ord d s m jf mf lo hi) 178)
theorem LatMem.get {w l nm ord d s m jf mf lo hi} (h : LatMem w l nm ord d s m jf mf lo hi) (q : Nat) (hq : q < 207) : w.cell? ⟨l, q, none⟩ = some (latCell nm ord d s m jf mf lo hi q) := by
  rw [cell_of h, lat_get _ _ _ _ _ _ _ _ _ _ hq]

theorem LatMem.getj {w l nm ord d s m jf mf lo hi} (h : LatMem w l nm ord d s m jf mf lo hi) (a c : Nat) (ha : a < 10) (hc : c < 10) : w.cell? ⟨l, 5 + a * 10 + c, none⟩ = some (.int .i64 (jf (a * 10 + c))) := by
  rw [h.get _ (by omega)]; simp only [latCell]; rw [if_neg (by omega), if_neg (by omega), if_neg (by omega), if_neg (by omega), if_neg (by omega), if_pos (by omega)]; congr 3; congr 1; omega
theorem LatMem.getm {w l nm ord d s m jf mf lo hi} (h : LatMem w l nm ord d s m jf mf lo hi) (a c : Nat) (ha : a < 10) (hc : c < 10) : w.cell? ⟨l, 105 + a * 10 + c, none⟩ = some (.int .i64 (mf (a * 10 + c))) := by
  rw [h.get _ (by omega)]; simp only [latCell]; rw [if_neg (by omega), if_neg (by omega), if_neg (by omega), if_neg (by omega), if_neg (by omega), if_neg (by omega), if_pos (by omega)]; congr 3; congr 1; omega

theorem kall {w w' : World} (h : Below w.heap.size w w') : Kept (fun _ => True) w w' := kept_of_below h (fun k hk _ => hk)
def lowsI (s : Nat) : List Int := (lows s).map fun x : Nat => (x : Int)
theorem lowsI_vals (s : Nat) : ((lows s).map fun x => Value.int .i64 (x : Nat)) = (lowsI s).map fun x => Value.int .i64 x := by simp [lowsI]
theorem lowsI_len (s : Nat) : (lowsI s).length = (lows s).length := by simp [lowsI]
def joinS (up : List Nat) (a b : Nat) : Int := bestOf (leqO up) (bothOf (lowsI (up[a]?.getD 0)) (lowsI (up[b]?.getD 0)))
def meetS (up down : List Nat) (a b : Nat) : Int := bestOf (fun x y => leqO up y x) (bothOf (lowsI (down[a]?.getD 0)) (lowsI (down[b]?.getD 0)))
/-- contracts of Up, Down, both and best in every world beyond W -/
def UpC (fn : Nat) (b n : Nat) (f : Nat → Nat) (w : World) : Prop := ∀ W, Below w.heap.size w W → ∀ c : Nat, c < n → Calls Tryz.prog fn #[.pointer (some ⟨b, 0, none⟩), .int .i64 c] W fun e w' => ∃ ao cp, e = .returned (.slice ao (lowsI (f c)).length cp) ∧ intsAt w' ao (lowsI (f c)) ∧ (ao = none → (lowsI (f c)).length = 0 ∧ cp = 0) ∧ (∀ a, ao = some a → a.spot = none) ∧ (∀ a, ao = some a → a.block < w'.heap.size) ∧ Below W.heap.size W w'
theorem intsAt_own {w : World} {base : Nat} {v : Value} {xs : List Int} (h : w.ownsRow base 3 1 v xs.length (xs.map fun x => Value.int .i64 x)) :
    ∃ ao cp, v = .slice ao xs.length cp ∧ intsAt w ao xs ∧ (ao = none → xs.length = 0 ∧ cp = 0) ∧ (∀ a, ao = some a → a.spot = none) ∧ (∀ a, ao = some a → a.block < w.heap.size) := by
  have hfl : (xs.map fun x => Value.int .i64 x) = flat (fun i _ => .int .i64 (xs[i]?.getD 0)) xs.length 1 := by
    apply List.ext_getElem?; intro i
    by_cases hi : i < xs.length
    · rw [flat_get _ _ _ _ (by omega)]; simp [hi]
    · rw [List.getElem?_eq_none (by simpa using Nat.le_of_not_lt hi), List.getElem?_eq_none (by rw [flat_len]; omega)]
  rcases h.2 with ⟨rfl, h0⟩ | ⟨g, cap, cur, rfl, hg, hh, hr⟩
  · exact ⟨none, 0, by rw [h0], .inl h0, fun _ => ⟨h0, rfl⟩, fun a h => (by cases h), fun a h => (by cases h)⟩
  · obtain ⟨ao, cp, e, h1, h2, h3, h4⟩ := slAt_of_own (w := w) (by omega) (hfl ▸ h)
    cases e
    exact ⟨_, _, rfl, h1, fun h => (by cases h), fun a h => (by cases h; rfl), fun a h => (h4 a h).2⟩
theorem upC_of {fn b n : Nat} {f : Nat → Nat} {w : World} (h : ∀ W, Below w.heap.size w W → ∀ c : Nat, c < n → Calls Tryz.prog fn #[.pointer (some ⟨b, 0, none⟩), .int .i64 c] W fun e w' => ∃ v, e = .returned v ∧ w'.ownsRow W.heap.size 3 1 v (lows (f c)).length ((lows (f c)).map fun x => Value.int .i64 (x : Nat)) ∧ Below W.heap.size W w') : UpC fn b n f w := by
  intro W hW c hc
  refine (h W hW c hc).mono ?_
  rintro e w' ⟨v, rfl, h1, h2⟩
  rw [← lowsI_len, lowsI_vals] at h1
  obtain ⟨ao, cp, rfl, g1, g2, g3, g4⟩ := intsAt_own h1
  exact ⟨ao, cp, rfl, g1, g2, g3, g4, h2⟩
theorem bothC (ao bo : Option Addr) (cp cq : Nat) (xs ys : List Int) (hn : xs.length ≤ 100000) (hm : ys.length ≤ 100000) (hno : ao = none → xs.length = 0 ∧ cp = 0) (hsp : ∀ a, ao = some a → a.spot = none) (w : World) (hx : intsAt w ao xs) (hy : intsAt w bo ys) (hbl : ∀ a, bo = some a → a.block < w.heap.size) :
    Calls Tryz.prog 195 #[.slice ao xs.length cp, .slice bo ys.length cq] w fun e w' => ∃ ao' cp', e = .returned (.slice ao' (bothOf xs ys).length cp') ∧ intsAt w' ao' (bothOf xs ys) ∧ (∀ a, ao' = some a → a.block < w'.heap.size) ∧ Below w.heap.size w w' := by
  refine (both_any ao bo cp cq xs ys hn hm hno hsp w hx hy hbl).mono ?_
  rintro e w' ⟨v, rfl, h1, h2⟩
  obtain ⟨ao, cp, rfl, g1, g2, g3, g4⟩ := intsAt_own h1
  exact ⟨ao, cp, rfl, g1, g4, h2⟩
theorem lowsI_len16 (s : Nat) : (lowsI s).length ≤ 100000 := by rw [lowsI_len]; have := lows_len s; omega
theorem bothOf_len (xs ys : List Int) : (bothOf xs ys).length ≤ xs.length := List.length_filter_le _ _

def DoneJ (n : Nat) (f : Nat → Int) (J : Nat → Nat → Int) (a b : Nat) : Prop := ∀ a' b', b' < n → (a' < a ∨ (a' = a ∧ b' < b)) → f (a' * 10 + b') = J a' b'

theorem done_step {n a c : Nat} {f : Nat → Int} {J : Nat → Nat → Int} (h : DoneJ n f J a c) (hn : n ≤ 10) {x : Int} (hx : x = J a c) : DoneJ n (upd f (a * 10 + c) x) J a (c + 1) := by
  intro a' b' hb hh
  simp only [upd]
  by_cases e : a' = a ∧ b' = c
  · obtain ⟨rfl, rfl⟩ := e; rw [if_pos rfl, hx]
  · rw [if_neg (by omega)]; exact h a' b' hb (by omega)
theorem done_next {n a c : Nat} {f : Nat → Int} {J : Nat → Nat → Int} (h : DoneJ n f J a c) (hc : n ≤ c) : DoneJ n f J (a + 1) 0 := fun a' b' hb hh => h a' b' hb (by omega)
theorem LatMem.below {w w' : World} {l nm ord d s m jf mf lo hi} (h : LatMem w l nm ord d s m jf mf lo hi) (hb : Below w.heap.size w w') : LatMem w' l nm ord d s m jf mf lo hi := (hb.block l (Array.getElem?_eq_some_iff.1 h).1).trans h
theorem LatMem.setJ {w : World} {l nm ord d s m jf mf lo hi} (h : LatMem w l nm ord d s m jf mf lo hi) {a c : Nat} (ha : a < 10) (hc : c < 10) (x : Int) : LatMem (w.setCell ⟨l, 5 + a * 10 + c, none⟩ (.int .i64 x)) l nm ord d s m (upd jf (a * 10 + c) x) mf lo hi := by
  show _ = _
  rw [heap_set _ h, Nat.add_assoc, lat_set_j _ _ _ _ _ _ _ _ _ _ _ (by omega)]
theorem LatMem.setM {w : World} {l nm ord d s m jf mf lo hi} (h : LatMem w l nm ord d s m jf mf lo hi) {a c : Nat} (ha : a < 10) (hc : c < 10) (x : Int) : LatMem (w.setCell ⟨l, 105 + a * 10 + c, none⟩ (.int .i64 x)) l nm ord d s m jf (upd mf (a * 10 + c) x) lo hi := by
  show _ = _
  rw [heap_set _ h, Nat.add_assoc, lat_set_m _ _ _ _ _ _ _ _ _ _ _ (by omega)]

theorem LatMem.setLo {w : World} {l nm ord d s m jf mf lo hi} (h : LatMem w l nm ord d s m jf mf lo hi) (x : Int) : LatMem (w.setCell ⟨l, 205, none⟩ (.int .i64 x)) l nm ord d s m jf mf x hi := by
  show _ = _
  rw [heap_set _ h, lat_set_lo]
theorem LatMem.setHi {w : World} {l nm ord d s m jf mf lo hi} (h : LatMem w l nm ord d s m jf mf lo hi) (x : Int) : LatMem (w.setCell ⟨l, 206, none⟩ (.int .i64 x)) l nm ord d s m jf mf lo x := by
  show _ = _
  rw [heap_set _ h, lat_set_hi]
theorem under_ahead {w : World} {l bl b bu bd : Nat} {up down : List Nat} {nm : Value} {d s m : Int} {jf mf : Nat → Int} {lo hi : Int} (h : OrdAt w b bu bd up down) (hl : LatMem w l nm (.pointer (some ⟨b, 0, none⟩)) d s m jf mf lo hi)
    (hbl : w.heap[bl]? = some (.cells #[.pointer (some ⟨l, 0, none⟩)] 64)) (x y : Int) :
    Calls Tryz.prog 193 #[.int .i64 x, .int .i64 y, .pointer (some ⟨bl, 0, none⟩)] w fun e w' => e = .returned (.bool (leqO up y x)) ∧ w = w' := by
  have c0 := cell_of (o := 0) hbl
  have l1 := hl.get 1 (by omega)
  simp only [latCell, if_true, Nat.one_ne_zero, if_false] at l1
  go_enter Tryz.func193, Tryz.ntmps193
  go_wp2_with fail
  refine (order_AtMost h y x).mono ?_
  rintro e w1 ⟨rfl, rfl⟩
  go_wp2_with fail
  go_ret
  exact ⟨rfl, rfl⟩

def lastOf (p : Nat → Bool) (d : Int) : Nat → Int
  | 0 => d
  | k + 1 => if p k then k else lastOf p d k
def fullS (up : List Nat) (n e : Nat) : Bool := ((lowsI (up[e]?.getD 0)).length : Int) == (n : Int)

set_option maxHeartbeats 4000000 in
set_option maxRecDepth 100000 in
theorem tables1 {w : World} {l bl b bu bd n : Nat} {up down : List Nat} {nma : Option Addr} {cpn : Nat} {d s m : Int} {jf mf : Nat → Int} {lo hi : Int} (hm : OrdMem w b bu bd n up down) (hk : OrdOk n up down) (ht : DbAt w)
    (hbl : w.heap[bl]? = some (.cells #[.pointer (some ⟨l, 0, none⟩)] 64)) (hl : LatMem w l (.slice nma n cpn) (.pointer (some ⟨b, 0, none⟩)) d s m jf mf lo hi) :
    Calls Tryz.prog 192 #[.pointer (some ⟨bl, 0, none⟩)] w fun e w' => e = .returned (.tuple #[]) ∧ ∃ jf' mf', LatMem w' l (.slice nma n cpn) (.pointer (some ⟨b, 0, none⟩)) d s m jf' mf' (lastOf (fullS up n) lo n) (lastOf (fullS down n) hi n) ∧ DoneJ n jf' (joinS up) n 0 ∧ DoneJ n mf' (meetS up down) n 0 ∧ Kept (fun k => k ≠ l) w w' := by
  have n1 : b ≠ l := by rintro rfl; have := hm.blk.symm.trans hl; simp at this
  have n2 : bu ≠ l := by rintro rfl; have := hm.up.symm.trans hl; simp at this
  have n3 : bd ≠ l := by rintro rfl; have := hm.down.symm.trans hl; simp at this
  have n4 : bl ≠ l := by rintro rfl; have := hbl.symm.trans hl; simp at this
  have n5 : (0 : Nat) ≠ l := by
    intro e
    subst e
    have h1 := ht 0 (by omega)
    rw [hl.get 0 (by omega)] at h1
    simp [latCell] at h1
  have c0 := cell_of (o := 0) hbl
  have l0 := hl.get 0 (by omega)
  have l1 := hl.get 1 (by omega)
  simp only [latCell, if_true, Nat.one_ne_zero, if_false] at l0 l1
  have hn := hk.small
  go_enter Tryz.func192, Tryz.ntmps192
  go_wp2_with fail
  go_loopg [16] n (fun r s16 wr => ∃ (a : Nat) (jf' mf' : Nat → Int), a ≤ n ∧ r = n - a ∧ s16 = .int .i64 a ∧ LatMem wr l (.slice nma n cpn) (.pointer (some ⟨b, 0, none⟩)) d s m jf' mf' lo hi ∧ DoneJ n jf' (joinS up) a 0 ∧ DoneJ n mf' (meetS up down) a 0 ∧ Kept (fun k => k ≠ l) w wr)
  case atStart => exact ⟨0, jf, mf, by omega, rfl, rfl, hl, fun a' b' _ h => by omega, fun a' b' _ h => by omega, Kept.refl _ _⟩
  case round =>
    obtain ⟨a, jf', mf', ha, rfl, rfl, hlm, hdj, hdm, hK⟩ := hrel
    obtain ⟨wo, hwo⟩ : ∃ wo : World, wo = wr := ⟨_, rfl⟩
    subst hwo
    by_cases hlt : a < n
    · have hlt2 : (a : Int) < n := by omega
      have c0' : wo.cell? ⟨bl, 0, none⟩ = some (.pointer (some ⟨l, 0, none⟩)) := by rw [cell_of ((hK.block _ (Array.getElem?_eq_some_iff.1 hbl).1 n4).trans hbl)]; rfl
      have l0' := hlm.get 0 (by omega)
      simp only [latCell, if_true] at l0'
      have HDJ := Lib.hid hdj; clear hdj
      have HDM := Lib.hid hdm; clear hdm
      go_wp2_with fail
      go_loopg [24] n (fun r s24 wr => ∃ (c : Nat) (jf' mf' : Nat → Int), c ≤ n ∧ r = n - c ∧ s24 = .int .i64 c ∧ LatMem wr l (.slice nma n cpn) (.pointer (some ⟨b, 0, none⟩)) d s m jf' mf' lo hi ∧ DoneJ n jf' (joinS up) a c ∧ DoneJ n mf' (meetS up down) a c ∧ Kept (fun k => k ≠ l) w wr)
      case atStart => exact ⟨0, jf', mf', by omega, rfl, rfl, hlm, HDJ.out, HDM.out, hK⟩
      case round =>
        clear hlm hK c0' l0' HDJ HDM
        clear jf' mf'
        obtain ⟨c, jf', mf', hc, rfl, rfl, hlm, hdj, hdm, hK⟩ := hrel
        have HDJ := Lib.hid hdj; clear hdj
        have HDM := Lib.hid hdm; clear hdm
        by_cases hlt3 : c < n
        · have hlt4 : (c : Int) < n := by omega
          have hbw : wr.heap[bl]? = some (.cells #[.pointer (some ⟨l, 0, none⟩)] 64) := (hK.block _ (Array.getElem?_eq_some_iff.1 hbl).1 n4).trans hbl
          have c0' : wr.cell? ⟨bl, 0, none⟩ = some (.pointer (some ⟨l, 0, none⟩)) := by rw [cell_of hbw]; rfl
          have hmw : OrdMem wr b bu bd n up down := hm.kept hK n1 n2 n3
          have htw : DbAt wr := ht.kept hK n5
          have hUp : UpC 196 b n (fun c => up[c]?.getD 0) wr := upC_of fun W hW c hc => order_Up (hmw.kept (kall hW) trivial trivial trivial) hk c _ hc rfl (htw.kept (kall hW) trivial)
          have hDn : UpC 197 b n (fun c => down[c]?.getD 0) wr := upC_of fun W hW c hc => order_Down (hmw.kept (kall hW) trivial trivial trivial) hk c _ hc rfl (htw.kept (kall hW) trivial)
          have hup2 : ∀ W, Below wr.heap.size wr W → OrdAt W b bu bd up down := fun W hW => (hmw.kept (kall hW) trivial trivial trivial).at hk
          have HUp := Lib.hid hUp; clear hUp
          have HDn := Lib.hid hDn; clear hDn
          have HAt := Lib.hid hup2; clear hup2
          have HM := Lib.hid hmw; clear hmw
          have HT := Lib.hid htw; clear htw
          have HL := Lib.hid hlm; clear hlm
          have hb0 : Below wr.heap.size wr wr.drew := (Below.refl _ wr).drew
          have ha10' : a < 10 := by omega
          have hc10' : c < 10 := by omega
          have ha10 : (a : Int) < 10 := by omega
          have hc10 : (c : Int) < 10 := by omega
          have DJ1 : ∀ x, x = joinS up a c → DoneJ n (upd jf' (a * 10 + c) x) (joinS up) a (c + 1) := fun x hx a' b' hb' hh => done_step HDJ.out hn hx a' b' hb' hh
          have HDJ1 := Lib.hid DJ1; clear DJ1
          go_upto_region 7 with fail
          go_cut [] from 27 to 43 (fun wx => LatMem wx l (.slice nma n cpn) (.pointer (some ⟨b, 0, none⟩)) d s m (upd jf' (a * 10 + c) (joinS up a c)) mf' lo hi ∧ Kept (fun k => k ≠ l) w wx)
          case first =>
            have tok0 : True := trivial
            go_region_held3 (fun w' => w'.cell? ⟨bl, 0, none⟩ = some (.pointer (some ⟨l, 0, none⟩))) (first | assumption | exact c0' | exact (cell_set_ne n4).trans (by assumption)) (first
              | (have _t := tok0; go_at_call 196; refine (HUp.out _ hb0 a hlt).mono ?_; rintro e w1 ⟨ao1, cp1, rfl, u1, u2, u3, u4, u5⟩; clear tok0; have tok1 : True := trivial; have hb1 := hb0.trans (u5.mono hb0.size); have k1 : w1.cell? ⟨bl, 0, none⟩ = some (.pointer (some ⟨l, 0, none⟩)) := (hb1.cell (p := ⟨bl, 0, none⟩) (cell_lt c0')).trans c0')
              | (have _t := tok1; go_at_call 196; refine (HUp.out _ hb1 c hlt3).mono ?_; rintro e w2 ⟨ao2, cp2, rfl, v1, v2, v3, v4, v5⟩; clear tok1; have tok2 : True := trivial; have hb2 := hb1.trans (v5.mono hb1.size); have k2 : w2.cell? ⟨bl, 0, none⟩ = some (.pointer (some ⟨l, 0, none⟩)) := (hb2.cell (p := ⟨bl, 0, none⟩) (cell_lt c0')).trans c0'; have u1' := u1.below v5)
              | (have _t := tok2; go_at_call 195; refine (bothC ao1 ao2 cp1 cp2 _ _ (lowsI_len16 _) (lowsI_len16 _) u2 u3 _ u1' v1 v4).mono ?_; rintro e w3 ⟨ao3, cp3, rfl, x1, x4, x5⟩; clear tok2; have tok3 : True := trivial; have hb3 := hb2.trans (x5.mono hb2.size); have k3 : w3.cell? ⟨bl, 0, none⟩ = some (.pointer (some ⟨l, 0, none⟩)) := (hb3.cell (p := ⟨bl, 0, none⟩) (cell_lt c0')).trans c0')
              | (have _t := tok3; go_at_call 194; refine (best_any ao3 cp3 _ (Nat.le_trans (bothOf_len _ _) (lowsI_len16 _)) 131 #[.pointer (some ⟨b, 0, none⟩)] #[] (enters_of Tryz.func131 (by kernel_rfl) rfl) (leqO up) _ x1 x4 (fun x _ y _ W hW => order_AtMost (HAt.out W (hb3.trans (hW.mono hb3.size))) x y)).mono ?_; rintro e w4 ⟨rfl, y5⟩; clear tok3; have hb4 := hb3.trans (y5.mono hb3.size); have k4 : w4.cell? ⟨bl, 0, none⟩ = some (.pointer (some ⟨l, 0, none⟩)) := (hb4.cell (p := ⟨bl, 0, none⟩) (cell_lt c0')).trans c0'; have ql : w4.cell? ⟨l, 5 + a * 10 + c, none⟩ = some (.int .i64 (jf' (a * 10 + c))) := (hb4.cell (p := ⟨l, 5 + a * 10 + c, none⟩) (cell_lt (HL.out.get 0 (by omega)))).trans (HL.out.getj a c (by omega) (by omega)); have fl : w4.frozen? ⟨l, 5 + a * 10 + c, none⟩ = false := (hb4.frozen (p := ⟨l, 5 + a * 10 + c, none⟩) (cell_lt (HL.out.get 0 (by omega)))).trans (free_of HL.out)))
            all_goals
              go_wp2_with fail
              go_meet
              exact ⟨(HL.out.below hb4).setJ ha10' hc10' _, (hK.trans2 (kall hb4) (fun _ _ _ => trivial)).setCell (by simp) _⟩
          case rest =>
            obtain ⟨wx, hwx⟩ : ∃ wx : World, wx = wc := ⟨_, rfl⟩
            subst hwx
            obtain ⟨hl2, hK2⟩ := hcut
            clear HUp HDn HAt HM HT HL c0' hb0 hbw hK
            have hbx : wx.heap[bl]? = some (.cells #[.pointer (some ⟨l, 0, none⟩)] 64) := (hK2.block _ (Array.getElem?_eq_some_iff.1 hbl).1 n4).trans hbl
            have c1' : wx.cell? ⟨bl, 0, none⟩ = some (.pointer (some ⟨l, 0, none⟩)) := by rw [cell_of hbx]; rfl
            have hmw : OrdMem wx b bu bd n up down := hm.kept hK2 n1 n2 n3
            have htw : DbAt wx := ht.kept hK2 n5
            have hDn : UpC 197 b n (fun c => down[c]?.getD 0) wx := upC_of fun W hW c hc => order_Down (hmw.kept (kall hW) trivial trivial trivial) hk c _ hc rfl (htw.kept (kall hW) trivial)
            have hup2 : ∀ W, Below wx.heap.size wx W → OrdAt W b bu bd up down := fun W hW => (hmw.kept (kall hW) trivial trivial trivial).at hk
            have HDn := Lib.hid hDn; clear hDn
            have HAt2 := Lib.hid hup2; clear hup2
            have HL2 := Lib.hid hl2; clear hl2
            clear hmw htw
            have hb0 : Below wx.heap.size wx wx.drew := (Below.refl _ wx).drew
            have DJ1 : ∀ x, x = meetS up down a c → DoneJ n (upd mf' (a * 10 + c) x) (meetS up down) a (c + 1) := fun x hx a' b' hb' hh => done_step HDM.out hn hx a' b' hb' hh
            have HDM1 := Lib.hid DJ1; clear DJ1
            go_upto_region 8 with fail
            have tok0 : True := trivial
            go_region_held3 (fun w' => w'.cell? ⟨bl, 0, none⟩ = some (.pointer (some ⟨l, 0, none⟩))) (first | assumption | exact c1' | exact (cell_set_ne n4).trans (by assumption)) (first
              | (have _t := tok0; go_at_call 197; refine (HDn.out _ hb0 a hlt).mono ?_; rintro e w1 ⟨ao1, cp1, rfl, u1, u2, u3, u4, u5⟩; clear tok0; have tok1 : True := trivial; have hb1 := hb0.trans (u5.mono hb0.size); have k1 : w1.cell? ⟨bl, 0, none⟩ = some (.pointer (some ⟨l, 0, none⟩)) := (hb1.cell (p := ⟨bl, 0, none⟩) (cell_lt c1')).trans c1')
              | (have _t := tok1; go_at_call 197; refine (HDn.out _ hb1 c hlt3).mono ?_; rintro e w2 ⟨ao2, cp2, rfl, v1, v2, v3, v4, v5⟩; clear tok1; have tok2 : True := trivial; have hb2 := hb1.trans (v5.mono hb1.size); have k2 : w2.cell? ⟨bl, 0, none⟩ = some (.pointer (some ⟨l, 0, none⟩)) := (hb2.cell (p := ⟨bl, 0, none⟩) (cell_lt c1')).trans c1'; have u1' := u1.below v5)
              | (have _t := tok2; go_at_call 195; refine (bothC ao1 ao2 cp1 cp2 _ _ (lowsI_len16 _) (lowsI_len16 _) u2 u3 _ u1' v1 v4).mono ?_; rintro e w3 ⟨ao3, cp3, rfl, x1, x4, x5⟩; clear tok2; have tok3 : True := trivial; have hb3 := hb2.trans (x5.mono hb2.size); have k3 : w3.cell? ⟨bl, 0, none⟩ = some (.pointer (some ⟨l, 0, none⟩)) := (hb3.cell (p := ⟨bl, 0, none⟩) (cell_lt c1')).trans c1')
              | (have _t := tok3; go_at_call 194; refine (best_any ao3 cp3 _ (Nat.le_trans (bothOf_len _ _) (lowsI_len16 _)) 193 #[] #[.pointer (some ⟨bl, 0, none⟩)] (enters_of Tryz.func193 (by kernel_rfl) rfl) (fun x y => leqO up y x) _ x1 x4 (fun x _ y _ W hW => under_ahead (HAt2.out W (hb3.trans (hW.mono hb3.size))) (HL2.out.below (hb3.trans (hW.mono hb3.size))) (((hb3.trans (hW.mono hb3.size)).block bl (Array.getElem?_eq_some_iff.1 hbx).1).trans hbx) x y)).mono ?_; rintro e w4 ⟨rfl, y5⟩; clear tok3; have hb4 := hb3.trans (y5.mono hb3.size); have k4 : w4.cell? ⟨bl, 0, none⟩ = some (.pointer (some ⟨l, 0, none⟩)) := (hb4.cell (p := ⟨bl, 0, none⟩) (cell_lt c1')).trans c1'; have ql : w4.cell? ⟨l, 105 + a * 10 + c, none⟩ = some (.int .i64 (mf' (a * 10 + c))) := (hb4.cell (p := ⟨l, 105 + a * 10 + c, none⟩) (cell_lt (HL2.out.get 0 (by omega)))).trans (HL2.out.getm a c (by omega) (by omega)); have fl : w4.frozen? ⟨l, 105 + a * 10 + c, none⟩ = false := (hb4.frozen (p := ⟨l, 105 + a * 10 + c, none⟩) (cell_lt (HL2.out.get 0 (by omega)))).trans (free_of HL2.out)))

            all_goals
              go_wp2_with fail
              go_roundg (n - (c + 1))
              case measure => omega
              case rel => exact ⟨c + 1, _, _, by omega, rfl, rfl, (HL2.out.below hb4).setM ha10' hc10' _, HDJ1.out _ rfl, HDM1.out _ rfl, (hK2.trans2 (kall hb4) (fun _ _ _ => trivial)).setCell (by simp) _⟩
        · have hcn : c = n := by omega
          have hlt4 : ¬ (c : Int) < n := by omega
          have hbw : wr.heap[bl]? = some (.cells #[.pointer (some ⟨l, 0, none⟩)] 64) := (hK.block _ (Array.getElem?_eq_some_iff.1 hbl).1 n4).trans hbl
          have HL := Lib.hid hlm; clear hlm
          have HB := Lib.hid hbw; clear hbw
          have HCN := Lib.hid hcn; clear hcn
          go_wp2_with fail
          go_roundg (n - (a + 1))
          case measure => omega
          case rel => exact ⟨a + 1, _, _, by omega, rfl, rfl, HL.out, done_next HDJ.out (by have := HCN.out; omega), done_next HDM.out (by have := HCN.out; omega), hK⟩
    · obtain rfl : n = a := by omega
      have hlt2 : ¬ (n : Int) < n := by omega
      have hbw : wo.heap[bl]? = some (.cells #[.pointer (some ⟨l, 0, none⟩)] 64) := (hK.block _ (Array.getElem?_eq_some_iff.1 hbl).1 n4).trans hbl
      have c0' : wo.cell? ⟨bl, 0, none⟩ = some (.pointer (some ⟨l, 0, none⟩)) := by rw [cell_of hbw]; rfl
      have l0' := hlm.get 0 (by omega)
      simp only [latCell, if_true] at l0'
      have HDJ := Lib.hid hdj; clear hdj
      have HDM := Lib.hid hdm; clear hdm
      have HL0 := Lib.hid hlm; clear hlm
      clear hbw
      go_wp2_with fail
      clear c0' l0'
      go_loopg [67] n (fun r s67 wr => ∃ e : Nat, e ≤ n ∧ r = n - e ∧ s67 = .int .i64 e ∧ LatMem wr l (.slice nma n cpn) (.pointer (some ⟨b, 0, none⟩)) d s m jf' mf' (lastOf (fullS up n) lo e) (lastOf (fullS down n) hi e) ∧ Kept (fun k => k ≠ l) w wr)
      case atStart => exact ⟨0, by omega, rfl, rfl, HL0.out, hK⟩
      case round =>
        clear HL0 hK
        obtain ⟨e, he, rfl, rfl, hlm, hK⟩ := hrel
        by_cases hlt : e < n
        · have hlt3 : (e : Int) < n := by omega
          have hbw : wr.heap[bl]? = some (.cells #[.pointer (some ⟨l, 0, none⟩)] 64) := (hK.block _ (Array.getElem?_eq_some_iff.1 hbl).1 n4).trans hbl
          have c0' : wr.cell? ⟨bl, 0, none⟩ = some (.pointer (some ⟨l, 0, none⟩)) := by rw [cell_of hbw]; rfl
          have l0' := hlm.get 0 (by omega)
          simp only [latCell, if_true] at l0'
          have hmw : OrdMem wr b bu bd n up down := hm.kept hK n1 n2 n3
          have htw : DbAt wr := ht.kept hK n5
          have hUp : UpC 196 b n (fun c => up[c]?.getD 0) wr := upC_of fun W hW c hc => order_Up (hmw.kept (kall hW) trivial trivial trivial) hk c _ hc rfl (htw.kept (kall hW) trivial)
          have HUp := Lib.hid hUp; clear hUp
          have HL := Lib.hid hlm; clear hlm
          clear hmw htw hbw
          have hb0 : Below wr.heap.size wr wr.drew := (Below.refl _ wr).drew
          go_upto_region 14 with fail
          go_cut [79] from 70 to 79 (fun s79 wx => s79 = .bool (fullS up n e) ∧ Below wr.heap.size wr wx)
          case first =>
            have tok0 : True := trivial
            go_region_held3 (fun w' => w'.cell? ⟨bl, 0, none⟩ = some (.pointer (some ⟨l, 0, none⟩)) ∧ w'.cell? ⟨l, 0, none⟩ = some (.slice nma n cpn)) (first | exact ⟨k1, k2⟩ | exact ⟨c0', l0'⟩) (first
              | (have _t := tok0; go_at_call 196; refine (HUp.out _ (by first | exact hb0 | exact Below.refl _ _) e hlt).mono ?_; rintro e w1 ⟨ao1, cp1, rfl, u1, u2, u3, u4, u5⟩; clear tok0; have hb1 : Below wr.heap.size wr w1 := hb0.trans (u5.mono hb0.size); have k1 : w1.cell? ⟨bl, 0, none⟩ = some (.pointer (some ⟨l, 0, none⟩)) := (hb1.cell (p := ⟨bl, 0, none⟩) (cell_lt c0')).trans c0'; have k2 : w1.cell? ⟨l, 0, none⟩ = some (.slice nma n cpn) := (hb1.cell (p := ⟨l, 0, none⟩) (cell_lt l0')).trans l0'))
            all_goals
              go_wp2_with fail
              go_meet
              exact ⟨rfl, hb1⟩
          case rest =>
            obtain ⟨rfl, hb⟩ := hcut
            obtain ⟨wv, hwv⟩ : ∃ wv : World, wv = wc := ⟨_, rfl⟩
            subst hwv
            have hKv := hK.trans2 (kall hb) (fun _ _ _ => trivial)
            have HLv := Lib.hid (HL.out.below hb)
            clear HL HUp hb0 c0' l0' hK hb
            have hbw : wv.heap[bl]? = some (.cells #[.pointer (some ⟨l, 0, none⟩)] 64) := (hKv.block _ (Array.getElem?_eq_some_iff.1 hbl).1 n4).trans hbl
            have c0' : wv.cell? ⟨bl, 0, none⟩ = some (.pointer (some ⟨l, 0, none⟩)) := by rw [cell_of hbw]; rfl
            clear hbw
            have q5 := HLv.out.get 205 (by omega)
            have f5 := free_of (o := 205) HLv.out
            go_upto_if 79 with fail
            go_cut [] from 79 to 83 (fun wx => LatMem wx l (.slice nma n cpn) (.pointer (some ⟨b, 0, none⟩)) d s m jf' mf' (lastOf (fullS up n) lo (e + 1)) (lastOf (fullS down n) hi e) ∧ Kept (fun k => k ≠ l) w wx)
            case first =>
              cases hp : fullS up n e
              · go_wp2_with fail
                go_meet
                refine ⟨?_, hKv⟩
                rw [lastOf, hp]
                exact HLv.out
              · have HP := Lib.hid hp; clear hp
                go_wp2_with fail
                go_meet
                refine ⟨?_, hKv.setCell (by simp) _⟩
                rw [lastOf, HP.out]
                exact HLv.out.setLo _
            case rest =>
              obtain ⟨hlx, hKx⟩ := hcut
              obtain ⟨wx, hwx⟩ : ∃ wx : World, wx = wc := ⟨_, rfl⟩
              subst hwx
              clear HLv hKv c0' q5 f5
              have hbw : wx.heap[bl]? = some (.cells #[.pointer (some ⟨l, 0, none⟩)] 64) := (hKx.block _ (Array.getElem?_eq_some_iff.1 hbl).1 n4).trans hbl
              have c0' : wx.cell? ⟨bl, 0, none⟩ = some (.pointer (some ⟨l, 0, none⟩)) := by rw [cell_of hbw]; rfl
              have l0' := hlx.get 0 (by omega)
              simp only [latCell, if_true] at l0'
              have hmw : OrdMem wx b bu bd n up down := hm.kept hKx n1 n2 n3
              have htw : DbAt wx := ht.kept hKx n5
              have hDn : UpC 197 b n (fun c => down[c]?.getD 0) wx := upC_of fun W hW c hc => order_Down (hmw.kept (kall hW) trivial trivial trivial) hk c _ hc rfl (htw.kept (kall hW) trivial)
              have HDn := Lib.hid hDn; clear hDn
              have HL := Lib.hid hlx; clear hlx
              clear hmw htw hbw
              have hb0 : Below wx.heap.size wx wx.drew := (Below.refl _ wx).drew
              go_upto_region 16 with fail
              go_cut [93] from 84 to 93 (fun s93 wy => s93 = .bool (fullS down n e) ∧ Below wx.heap.size wx wy)
              case first =>
                have tok0 : True := trivial
                go_region_held3 (fun w' => w'.cell? ⟨bl, 0, none⟩ = some (.pointer (some ⟨l, 0, none⟩)) ∧ w'.cell? ⟨l, 0, none⟩ = some (.slice nma n cpn)) (first | exact ⟨k1, k2⟩ | exact ⟨c0', l0'⟩) (first
                  | (have _t := tok0; go_at_call 197; refine (HDn.out _ (by first | exact hb0 | exact Below.refl _ _) e hlt).mono ?_; rintro e w1 ⟨ao1, cp1, rfl, u1, u2, u3, u4, u5⟩; clear tok0; have hb1 : Below wx.heap.size wx w1 := hb0.trans (u5.mono hb0.size); have k1 : w1.cell? ⟨bl, 0, none⟩ = some (.pointer (some ⟨l, 0, none⟩)) := (hb1.cell (p := ⟨bl, 0, none⟩) (cell_lt c0')).trans c0'; have k2 : w1.cell? ⟨l, 0, none⟩ = some (.slice nma n cpn) := (hb1.cell (p := ⟨l, 0, none⟩) (cell_lt l0')).trans l0'))
                all_goals
                  go_wp2_with fail
                  go_meet
                  exact ⟨rfl, hb1⟩
              case rest =>
                obtain ⟨rfl, hb⟩ := hcut
                obtain ⟨wv, hwv⟩ : ∃ wv : World, wv = wc := ⟨_, rfl⟩
                subst hwv
                have hKv := hKx.trans2 (kall hb) (fun _ _ _ => trivial)
                have HLv := Lib.hid (HL.out.below hb)
                clear HL HDn hb0 c0' l0' hKx hb
                have hbw : wv.heap[bl]? = some (.cells #[.pointer (some ⟨l, 0, none⟩)] 64) := (hKv.block _ (Array.getElem?_eq_some_iff.1 hbl).1 n4).trans hbl
                have c0' : wv.cell? ⟨bl, 0, none⟩ = some (.pointer (some ⟨l, 0, none⟩)) := by rw [cell_of hbw]; rfl
                clear hbw
                have q5 := HLv.out.get 206 (by omega)
                have f5 := free_of (o := 206) HLv.out
                cases hp : fullS down n e
                · go_wp2_with fail
                  go_roundg (n - (e + 1))
                  case measure => omega
                  case rel =>
                    refine ⟨e + 1, by omega, rfl, rfl, ?_, hKv⟩
                    have := HLv.out
                    rw [lastOf.eq_def (fullS down n) hi (e + 1)]
                    simp only [hp, if_false, Bool.false_eq_true]
                    exact this
                · have HP := Lib.hid hp; clear hp
                  go_wp2_with fail
                  go_roundg (n - (e + 1))
                  case measure => omega
                  case rel =>
                    refine ⟨e + 1, by omega, rfl, rfl, ?_, hKv.setCell (by simp) _⟩
                    have := HLv.out.setHi e
                    rw [lastOf.eq_def (fullS down n) hi (e + 1)]
                    simp only [HP.out, if_true]
                    exact this
        · obtain rfl : n = e := by omega
          have hlt3 : ¬ (n : Int) < n := by omega
          have HL := Lib.hid hlm; clear hlm
          go_wp2_with fail
          go_end0
          exact ⟨rfl, _, _, HL.out, HDJ.out, HDM.out, hK⟩
end Go.Proofs.YteblahoijolegaaGreatDoor
end
