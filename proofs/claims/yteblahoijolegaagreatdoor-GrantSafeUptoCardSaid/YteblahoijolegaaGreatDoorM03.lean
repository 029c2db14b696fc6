import Derived.Test.YteblahoijolegaaGreatDoorM01
import Derived.Test.YteblahoijolegaaGreatDoorM02
section
set_option linter.all false
namespace Go.Proofs.YteblahoijolegaaGreatDoor
open Go.RowKit

theorem lows_len (s : Nat) : (lows s).length ≤ 16 := by unfold lows; exact Nat.le_trans (List.length_filter_le _ _) (by simp)

theorem collect_set (s bs : Nat) (hs : s < 1024) (w : World) (hc : w.heap[bs]? = some (.cells #[.int .u32 (s : Nat)] 229)) (ht : DbAt w) (hb : bs ≠ 0) (hp : 0 < w.heap.size) :
    Calls Tryz.prog 249 #[.func (.func 189) #[] #[.pointer (some ⟨bs, 0, none⟩)]] w fun e w' => ∃ v, e = .returned v ∧ w'.ownsRow w.heap.size 3 1 v (lows s).length ((lows s).map fun x => Value.int .i64 (x : Nat)) ∧ Kept (fun k => k ≠ bs) w w' := by
  have hbl : bs < w.heap.size := (Array.getElem?_eq_some_iff.1 hc).1
  have hA := appendSeq_int (gf := 189) (lb := #[.pointer (some ⟨bs, 0, none⟩)]) (enters_of Tryz.func189 (by kernel_rfl) rfl) (lows s) (by have := lows_len s; omega) (· = bs) (fun k => k = bs ∨ k = 0) (fun k hk => .inl hk) w
    (fun k hk => by rcases hk with rfl | rfl <;> omega) (fun w' hk => all1_iter bs s w' hs ((hk.block _ hbl trivial).trans hc) (ht.kept hk trivial) hb)
  go_enter Tryz.func249, Tryz.ntmps249
  go_wp2_with fail
  refine hA.mono ?_
  rintro e w' ⟨v, rfl, h1, h2⟩
  go_wp2_with fail
  go_ret
  exact ⟨v, rfl, h1, h2⟩

theorem ownsRow_base {w : World} {B B' : Nat} {e : TypeId} {size n : Nat} {v : Value} {xs : List Value} (h : w.ownsRow B e size v n xs) (hB : B' ≤ B) : w.ownsRow B' e size v n xs := by
  refine ⟨h.1, ?_⟩
  rcases h.2 with h2 | ⟨g, cap, cur, rfl, h3, h4⟩
  · exact .inl h2
  · exact .inr ⟨g, cap, cur, rfl, by omega, h4⟩
theorem order_list (b g : Nat) (lb : Array Value) (W : World) : Calls Tryz.prog 225 #[.pointer (some ⟨b, 0, none⟩), .func (.func g) #[] lb] W fun e w' => e = .returned (.func (.func 248) #[] #[.pointer (some ⟨W.heap.size, 0, none⟩), .pointer (some ⟨W.heap.size + 1, 0, none⟩)]) ∧ (W.alloc (.cells #[.pointer (some ⟨b, 0, none⟩)] 170)).alloc (.cells #[.func (.func g) #[] lb] 288) = w' := by
  go_enter Tryz.func225, Tryz.ntmps225
  go_wp2
  go_ret
  exact ⟨rfl, rfl⟩
set_option maxHeartbeats 1000000 in
theorem order_Upfn {w b bu bd n up down} (h : OrdMem w b bu bd n up down) (bo : Nat) (hbo : w.heap[bo]? = some (.cells #[.pointer (some ⟨b, 0, none⟩)] 170)) :
    Calls Tryz.prog 226 #[.pointer (some ⟨bo, 0, none⟩)] w fun e w' => e = .returned (.slice (some ⟨bu, 0, none⟩) n n) ∧ w = w' := by
  have c := cell_of (o := 0) hbo
  have c0 := cell_of (o := 0) h.blk
  have c1 := cell_of (o := 1) h.blk
  go_enter Tryz.func226, Tryz.ntmps226
  go_wp2
  go_ret
  exact ⟨rfl, rfl⟩
set_option maxHeartbeats 1000000 in
theorem list1_Up {w b bu bd n up down} (h : OrdMem w b bu bd n up down) (k : OrdOk n up down) (a s b1 b2 bo : Nat) (ha : a < n) (hs : up[a]?.getD 0 = s) (ht : DbAt w)
    (h1 : w.heap[b1]? = some (.cells #[.pointer (some ⟨b, 0, none⟩)] 170)) (h2 : w.heap[b2]? = some (.cells #[.func (.func 226) #[] #[.pointer (some ⟨bo, 0, none⟩)]] 288)) (hbo : w.heap[bo]? = some (.cells #[.pointer (some ⟨b, 0, none⟩)] 170)) :
    Calls Tryz.prog 248 #[.int .i64 a, .pointer (some ⟨b1, 0, none⟩), .pointer (some ⟨b2, 0, none⟩)] w fun e w' => ∃ v, e = .returned v ∧ w'.ownsRow w.heap.size 3 1 v (lows s).length ((lows s).map fun x => Value.int .i64 (x : Nat)) ∧ Below w.heap.size w w' := by
  have hat := h.at k
  have hlt := hat.lt
  have hl := h.lu
  have c1 := cell_of (o := 0) h1
  have c2 := cell_of (o := 0) h2
  simp only [List.getElem?_toArray, List.getElem?_cons_zero] at c1 c2
  have hn : (a : Int) < n := by omega
  have hc : w.cell? ⟨bu, a, none⟩ = some (.int .u32 (s : Nat)) := by rw [cell_of h.up, rowOf_get _ _ (by rw [h.lu]; exact ha), hs]
  have hs2 : s < 1024 := by rw [← hs]; exact Nat.lt_of_lt_of_le (getD_lt2 k.ubd a) (OrdOk.lt k.small)
  have HS := Lib.hid hs; clear hs
  go_enter Tryz.func248, Tryz.ntmps248
  go_wp2_with fail
  refine (order_is hat _).mono ?_; rintro e w' ⟨rfl, rfl⟩
  rw [hl, decide_eq_true (by omega)]
  go_wp2_with fail
  refine (order_Upfn h bo hbo).mono ?_; rintro e w' ⟨rfl, rfl⟩
  go_wp2_with fail
  refine (set_all s _).mono ?_; rintro e w' ⟨rfl, rfl⟩
  go_wp2_with fail
  refine (collect_set s w.heap.size hs2 _ (heap_new w _) (ht.kept (keep := fun _ => True) ((Kept.refl _ w).alloc _) trivial) (by show w.heap.size ≠ (0 : Nat); omega) (by show (0 : Nat) < _; simp)).mono ?_
  rintro e w1 ⟨v, rfl, h3, h4⟩
  go_wp2_with fail
  go_ret
  have h4' := ((Kept.refl (fun k => k < w.heap.size) w).alloc (Obj.cells #[Value.int IntKind.u32 ↑s] 229)).trans2 h4 (fun i hi _ => by show i ≠ w.heap.size; omega)
  exact ⟨v, rfl, ownsRow_base h3 (by simp), h4'.below (Nat.le_refl _) (fun k hk => hk)⟩
set_option maxHeartbeats 1000000 in
theorem order_Up {w b bu bd n up down} (h : OrdMem w b bu bd n up down) (k : OrdOk n up down) (a s : Nat) (ha : a < n) (hs : up[a]?.getD 0 = s) (ht : DbAt w) :
    Calls Tryz.prog 196 #[.pointer (some ⟨b, 0, none⟩), .int .i64 a] w fun e w' => ∃ v, e = .returned v ∧ w'.ownsRow w.heap.size 3 1 v (lows s).length ((lows s).map fun x => Value.int .i64 (x : Nat)) ∧ Below w.heap.size w w' := by
  have hlt := (h.at k).lt
  have HS := Lib.hid hs; clear hs
  go_enter Tryz.func196, Tryz.ntmps196
  go_wp2_with fail
  refine (order_list b _ _ _).mono ?_; rintro e w' ⟨rfl, rfl⟩
  go_wp2_with fail
  have hk := (((Kept.refl (fun _ => True) w).alloc (.cells #[.pointer (some ⟨b, 0, none⟩)] 170)).alloc (.cells #[.pointer (some ⟨b, 0, none⟩)] 170)).alloc (.cells #[.func (.func 226) #[] #[.pointer (some ⟨w.heap.size, 0, none⟩)]] 288)
  refine (list1_Up (h.kept hk trivial trivial trivial) k a s (w.heap.size + 1) (w.heap.size + 2) w.heap.size ha HS.out (ht.kept hk trivial) (by (simp only [heap_drew, heap_allocs, World.size_alloc, if_true] <;> repeat (first | rw [if_pos (by omega)] | rw [if_neg (by omega)]))) (by (simp only [heap_drew, heap_allocs, World.size_alloc, if_true] <;> repeat (first | rw [if_pos (by omega)] | rw [if_neg (by omega)]))) (by (simp only [heap_drew, heap_allocs, World.size_alloc, if_true] <;> repeat (first | rw [if_pos (by omega)] | rw [if_neg (by omega)])))).mono ?_
  rintro e w1 ⟨v, rfl, h3, h4⟩
  go_wp2_with fail
  go_ret
  exact ⟨v, rfl, ownsRow_base h3 (by simp; omega), (hk.mono (keep' := fun k => k < w.heap.size) fun _ _ _ => trivial).trans2 (kept_of_below h4 (fun k hk _ => hk)) (fun k hk _ => trivial) |>.below (Nat.le_refl _) (fun k hk => hk)⟩
set_option maxHeartbeats 1000000 in
theorem order_Downfn {w b bu bd n up down} (h : OrdMem w b bu bd n up down) (bo : Nat) (hbo : w.heap[bo]? = some (.cells #[.pointer (some ⟨b, 0, none⟩)] 170)) :
    Calls Tryz.prog 227 #[.pointer (some ⟨bo, 0, none⟩)] w fun e w' => e = .returned (.slice (some ⟨bd, 0, none⟩) n n) ∧ w = w' := by
  have c := cell_of (o := 0) hbo
  have c0 := cell_of (o := 0) h.blk
  have c1 := cell_of (o := 1) h.blk
  go_enter Tryz.func227, Tryz.ntmps227
  go_wp2
  go_ret
  exact ⟨rfl, rfl⟩
set_option maxHeartbeats 1000000 in
theorem list1_Down {w b bu bd n up down} (h : OrdMem w b bu bd n up down) (k : OrdOk n up down) (a s b1 b2 bo : Nat) (ha : a < n) (hs : down[a]?.getD 0 = s) (ht : DbAt w)
    (h1 : w.heap[b1]? = some (.cells #[.pointer (some ⟨b, 0, none⟩)] 170)) (h2 : w.heap[b2]? = some (.cells #[.func (.func 227) #[] #[.pointer (some ⟨bo, 0, none⟩)]] 288)) (hbo : w.heap[bo]? = some (.cells #[.pointer (some ⟨b, 0, none⟩)] 170)) :
    Calls Tryz.prog 248 #[.int .i64 a, .pointer (some ⟨b1, 0, none⟩), .pointer (some ⟨b2, 0, none⟩)] w fun e w' => ∃ v, e = .returned v ∧ w'.ownsRow w.heap.size 3 1 v (lows s).length ((lows s).map fun x => Value.int .i64 (x : Nat)) ∧ Below w.heap.size w w' := by
  have hat := h.at k
  have hlt := hat.lt
  have hl := h.lu
  have c1 := cell_of (o := 0) h1
  have c2 := cell_of (o := 0) h2
  simp only [List.getElem?_toArray, List.getElem?_cons_zero] at c1 c2
  have hn : (a : Int) < n := by omega
  have hc : w.cell? ⟨bd, a, none⟩ = some (.int .u32 (s : Nat)) := by rw [cell_of h.down, rowOf_get _ _ (by rw [h.ld]; exact ha), hs]
  have hs2 : s < 1024 := by rw [← hs]; exact Nat.lt_of_lt_of_le (getD_lt2 k.dbd a) (OrdOk.lt k.small)
  have HS := Lib.hid hs; clear hs
  go_enter Tryz.func248, Tryz.ntmps248
  go_wp2_with fail
  refine (order_is hat _).mono ?_; rintro e w' ⟨rfl, rfl⟩
  rw [hl, decide_eq_true (by omega)]
  go_wp2_with fail
  refine (order_Downfn h bo hbo).mono ?_; rintro e w' ⟨rfl, rfl⟩
  go_wp2_with fail
  refine (set_all s _).mono ?_; rintro e w' ⟨rfl, rfl⟩
  go_wp2_with fail
  refine (collect_set s w.heap.size hs2 _ (heap_new w _) (ht.kept (keep := fun _ => True) ((Kept.refl _ w).alloc _) trivial) (by show w.heap.size ≠ (0 : Nat); omega) (by show (0 : Nat) < _; simp)).mono ?_
  rintro e w1 ⟨v, rfl, h3, h4⟩
  go_wp2_with fail
  go_ret
  have h4' := ((Kept.refl (fun k => k < w.heap.size) w).alloc (Obj.cells #[Value.int IntKind.u32 ↑s] 229)).trans2 h4 (fun i hi _ => by show i ≠ w.heap.size; omega)
  exact ⟨v, rfl, ownsRow_base h3 (by simp), h4'.below (Nat.le_refl _) (fun k hk => hk)⟩
set_option maxHeartbeats 1000000 in
theorem order_Down {w b bu bd n up down} (h : OrdMem w b bu bd n up down) (k : OrdOk n up down) (a s : Nat) (ha : a < n) (hs : down[a]?.getD 0 = s) (ht : DbAt w) :
    Calls Tryz.prog 197 #[.pointer (some ⟨b, 0, none⟩), .int .i64 a] w fun e w' => ∃ v, e = .returned v ∧ w'.ownsRow w.heap.size 3 1 v (lows s).length ((lows s).map fun x => Value.int .i64 (x : Nat)) ∧ Below w.heap.size w w' := by
  have hlt := (h.at k).lt
  have HS := Lib.hid hs; clear hs
  go_enter Tryz.func197, Tryz.ntmps197
  go_wp2_with fail
  refine (order_list b _ _ _).mono ?_; rintro e w' ⟨rfl, rfl⟩
  go_wp2_with fail
  have hk := (((Kept.refl (fun _ => True) w).alloc (.cells #[.pointer (some ⟨b, 0, none⟩)] 170)).alloc (.cells #[.pointer (some ⟨b, 0, none⟩)] 170)).alloc (.cells #[.func (.func 227) #[] #[.pointer (some ⟨w.heap.size, 0, none⟩)]] 288)
  refine (list1_Down (h.kept hk trivial trivial trivial) k a s (w.heap.size + 1) (w.heap.size + 2) w.heap.size ha HS.out (ht.kept hk trivial) (by (simp only [heap_drew, heap_allocs, World.size_alloc, if_true] <;> repeat (first | rw [if_pos (by omega)] | rw [if_neg (by omega)]))) (by (simp only [heap_drew, heap_allocs, World.size_alloc, if_true] <;> repeat (first | rw [if_pos (by omega)] | rw [if_neg (by omega)]))) (by (simp only [heap_drew, heap_allocs, World.size_alloc, if_true] <;> repeat (first | rw [if_pos (by omega)] | rw [if_neg (by omega)])))).mono ?_
  rintro e w1 ⟨v, rfl, h3, h4⟩
  go_wp2_with fail
  go_ret
  exact ⟨v, rfl, ownsRow_base h3 (by simp; omega), (hk.mono (keep' := fun k => k < w.heap.size) fun _ _ _ => trivial).trans2 (kept_of_below h4 (fun k hk _ => hk)) (fun k hk _ => trivial) |>.below (Nat.le_refl _) (fun k hk => hk)⟩
end Go.Proofs.YteblahoijolegaaGreatDoor
end
section
set_option linter.all false
namespace Go.Proofs.YteblahoijolegaaGreatDoor
open Go.RowKit

/-- a slice's elements in memory: n elements of k cells -/
def SlAt (w : World) (ao : Option Addr) (n k : Nat) (c : Nat → Nat → Value) : Prop :=
  n = 0 ∨ ∃ a off, ao = some ⟨a, off, none⟩ ∧ ∀ i, i < n → ∀ j, j < k → w.cell? ⟨a, off + i * k + j, none⟩ = some (c i j)
theorem cell_lt {w : World} {b o : Nat} {v : Value} (h : w.cell? ⟨b, o, none⟩ = some v) : b < w.heap.size := World.block_lt_of_cell? w _ h
theorem SlAt.below {w w' : World} {ao : Option Addr} {n k : Nat} {c : Nat → Nat → Value} (h : SlAt w ao n k c) (hb : Below w.heap.size w w') : SlAt w' ao n k c := by
  rcases h with h | ⟨a, off, h1, h2⟩
  · exact .inl h
  · exact .inr ⟨a, off, h1, fun i hi j hj => (hb.cell (p := ⟨a, _, none⟩) (cell_lt (h2 i hi j hj))).trans (h2 i hi j hj)⟩
/-- the first index below n at which p holds; -1: none -/
def fidx (p : Nat → Bool) : Nat → Nat → Int
  | 0, _ => -1
  | r + 1, i => if p i then (i : Int) else fidx p r (i + 1)
def findx (p : Nat → Bool) (n : Nat) : Int := fidx p n 0
def anyx (p : Nat → Bool) (n : Nat) : Bool := decide (0 ≤ findx p n)
theorem fidx_iff (p : Nat → Bool) (r : Nat) : ∀ i, (0 ≤ fidx p r i ↔ ∃ j, i ≤ j ∧ j < i + r ∧ p j = true) := by
  induction r with
  | zero => intro i; simp [fidx]; omega
  | succ r ih =>
    intro i
    unfold fidx
    split
    · next h => exact ⟨fun _ => ⟨i, Nat.le_refl _, by omega, h⟩, fun _ => by omega⟩
    · next h =>
      rw [ih]
      constructor
      · rintro ⟨j, h1, h2, h3⟩; exact ⟨j, by omega, by omega, h3⟩
      · rintro ⟨j, h1, h2, h3⟩
        refine ⟨j, ?_, by omega, h3⟩
        rcases Nat.lt_or_ge i j with h4 | h4
        · exact h4
        · obtain rfl : j = i := by omega
          exact absurd h3 (by simpa using h)
theorem anyx_iff (p : Nat → Bool) (n : Nat) : anyx p n = true ↔ ∃ j, j < n ∧ p j = true := by
  unfold anyx findx
  rw [decide_eq_true_iff, fidx_iff]
  constructor
  · rintro ⟨j, _, h2, h3⟩; exact ⟨j, by omega, h3⟩
  · rintro ⟨j, h2, h3⟩; exact ⟨j, by omega, by omega, h3⟩
/-- what a call of a predicate gives -/
def PredB (g : Nat) (lb : Array Value) (el : Value) (b : Bool) (w : World) : Prop :=
  ∀ W, Below w.heap.size w W → Calls Tryz.prog g (#[el] ++ lb) W fun e W' => e = .returned (.bool b) ∧ Below W.heap.size W W'
theorem PredB.below {g : Nat} {lb : Array Value} {el : Value} {b : Bool} {w w' : World} (h : PredB g lb el b w) (hb : Below w.heap.size w w') : PredB g lb el b w' :=
  fun W hW => h W (hb.trans (hW.mono hb.size))

set_option maxHeartbeats 1000000 in
theorem indexFunc_int (ao : Option Addr) (n cp : Nat) (hn : n ≤ 100000) (c : Nat → Nat → Value) (p : Nat → Bool) (g : Nat) (lb : Array Value) (eg : ∀ args w, (callFunc g args).run Tryz.prog w = .ok (.enter g args) w) (w : World)
    (hs : SlAt w ao n 1 c) (h1 : True) (hp : ∀ i, i < n → PredB g lb (c i 0) (p i) w) :
    Calls Tryz.prog 246 #[.slice ao n cp, .func (.func g) #[] lb] w fun e w' => e = .returned (.int .i64 (findx p n)) ∧ Below w.heap.size w w' := by
  go_enter Tryz.func246, Tryz.ntmps246
  go_wp2_with fail
  go_loopg [8] n (fun r s8 wr => ∃ i : Nat, i ≤ n ∧ r = n - i ∧ s8 = .int .i64 i ∧ fidx p r i = findx p n ∧ Below w.heap.size w wr)
  case atStart => exact ⟨0, by omega, rfl, rfl, rfl, Below.refl _ _⟩
  case round =>
    obtain ⟨i, hi, rfl, rfl, he, hb⟩ := hrel
    by_cases hlt : i < n
    · rcases hs.below hb with h0 | ⟨a, off, rfl, hcs⟩
      · omega
      have hpi := hp i hlt wr hb
      obtain ⟨r, hr⟩ : ∃ r, n - i = r + 1 := ⟨n - i - 1, by omega⟩
      rw [hr, fidx] at he
      have HE := Lib.hid he; clear he
      have HR := Lib.hid hr; clear hr
      have hlt2 : (i : Int) < n := by omega
      have d0 := hcs i hlt 0 (by omega); simp only [Nat.mul_one, Nat.add_zero] at d0
      clear hcs
      generalize hq : p i = q at hpi HE
      clear hq
      go_wp2_with fail
      refine hpi.mono ?_
      rintro e W1 ⟨rfl, hb1⟩
      cases q
      · go_wp2_with fail
        go_roundg r
        case measure => have := HR.out; omega
        case rel => exact ⟨i + 1, by omega, by have := HR.out; omega, by go_num, by simpa using HE.out, hb.trans (hb1.mono hb.size)⟩
      · go_wp2_with fail
        go_ret
        exact ⟨by rw [← HE.out]; rfl, hb.trans (hb1.mono hb.size)⟩
    · obtain rfl : i = n := by omega
      go_wp2
      go_ret
      rw [Nat.sub_self] at he
      exact ⟨by rw [← he]; rfl, hb⟩
set_option maxHeartbeats 1000000 in
theorem containsFunc_int (ao : Option Addr) (n cp : Nat) (hn : n ≤ 100000) (c : Nat → Nat → Value) (p : Nat → Bool) (g : Nat) (lb : Array Value) (eg : ∀ args w, (callFunc g args).run Tryz.prog w = .ok (.enter g args) w) (w : World)
    (hs : SlAt w ao n 1 c) (hp : ∀ i, i < n → PredB g lb (c i 0) (p i) w) :
    Calls Tryz.prog 219 #[.slice ao n cp, .func (.func g) #[] lb] w fun e w' => e = .returned (.bool (anyx p n)) ∧ Below w.heap.size w w' := by
  have hI := indexFunc_int ao n cp hn c p g lb eg w hs trivial hp
  unfold anyx
  generalize findx p n = r at hI ⊢
  go_enter Tryz.func219, Tryz.ntmps219
  go_wp2_with fail
  refine hI.mono ?_
  rintro e w1 ⟨rfl, hb⟩
  by_cases hr : 0 ≤ r
  · go_wp2_with fail
    go_ret
    exact ⟨by simp [hr], hb⟩
  · go_wp2_with fail
    go_ret
    exact ⟨by simp [hr], hb⟩
set_option maxHeartbeats 1000000 in
theorem indexFunc_pair (ao : Option Addr) (n cp : Nat) (hn : n ≤ 100000) (c : Nat → Nat → Value) (p : Nat → Bool) (g : Nat) (lb : Array Value) (eg : ∀ args w, (callFunc g args).run Tryz.prog w = .ok (.enter g args) w) (w : World)
    (hs : SlAt w ao n 2 c) (h1 : True) (hp : ∀ i, i < n → PredB g lb (.agg #[c i 0, c i 1]) (p i) w) :
    Calls Tryz.prog 148 #[.slice ao n cp, .func (.func g) #[] lb] w fun e w' => e = .returned (.int .i64 (findx p n)) ∧ Below w.heap.size w w' := by
  go_enter Tryz.func148, Tryz.ntmps148
  go_wp2_with fail
  go_loopg [8] n (fun r s8 wr => ∃ i : Nat, i ≤ n ∧ r = n - i ∧ s8 = .int .i64 i ∧ fidx p r i = findx p n ∧ Below w.heap.size w wr)
  case atStart => exact ⟨0, by omega, rfl, rfl, rfl, Below.refl _ _⟩
  case round =>
    obtain ⟨i, hi, rfl, rfl, he, hb⟩ := hrel
    by_cases hlt : i < n
    · rcases hs.below hb with h0 | ⟨a, off, rfl, hcs⟩
      · omega
      have hpi := hp i hlt wr hb
      obtain ⟨r, hr⟩ : ∃ r, n - i = r + 1 := ⟨n - i - 1, by omega⟩
      rw [hr, fidx] at he
      have HE := Lib.hid he; clear he
      have HR := Lib.hid hr; clear hr
      have hlt2 : (i : Int) < n := by omega
      have d0 := hcs i hlt 0 (by omega); have d1 := hcs i hlt 1 (by omega); simp only [Nat.add_zero] at d0
      clear hcs
      generalize hq : p i = q at hpi HE
      clear hq
      go_wp2_with fail
      refine hpi.mono ?_
      rintro e W1 ⟨rfl, hb1⟩
      cases q
      · go_wp2_with fail
        go_roundg r
        case measure => have := HR.out; omega
        case rel => exact ⟨i + 1, by omega, by have := HR.out; omega, by go_num, by simpa using HE.out, hb.trans (hb1.mono hb.size)⟩
      · go_wp2_with fail
        go_ret
        exact ⟨by rw [← HE.out]; rfl, hb.trans (hb1.mono hb.size)⟩
    · obtain rfl : i = n := by omega
      go_wp2
      go_ret
      rw [Nat.sub_self] at he
      exact ⟨by rw [← he]; rfl, hb⟩
set_option maxHeartbeats 1000000 in
theorem containsFunc_pair (ao : Option Addr) (n cp : Nat) (hn : n ≤ 100000) (c : Nat → Nat → Value) (p : Nat → Bool) (g : Nat) (lb : Array Value) (eg : ∀ args w, (callFunc g args).run Tryz.prog w = .ok (.enter g args) w) (w : World)
    (hs : SlAt w ao n 2 c) (hp : ∀ i, i < n → PredB g lb (.agg #[c i 0, c i 1]) (p i) w) :
    Calls Tryz.prog 87 #[.slice ao n cp, .func (.func g) #[] lb] w fun e w' => e = .returned (.bool (anyx p n)) ∧ Below w.heap.size w w' := by
  have hI := indexFunc_pair ao n cp hn c p g lb eg w hs trivial hp
  unfold anyx
  generalize findx p n = r at hI ⊢
  go_enter Tryz.func87, Tryz.ntmps87
  go_wp2_with fail
  refine hI.mono ?_
  rintro e w1 ⟨rfl, hb⟩
  by_cases hr : 0 ≤ r
  · go_wp2_with fail
    go_ret
    exact ⟨by simp [hr], hb⟩
  · go_wp2_with fail
    go_ret
    exact ⟨by simp [hr], hb⟩
set_option maxHeartbeats 1000000 in
theorem indexFunc_source (ao : Option Addr) (n cp : Nat) (hn : n ≤ 100000) (c : Nat → Nat → Value) (p : Nat → Bool) (g : Nat) (lb : Array Value) (eg : ∀ args w, (callFunc g args).run Tryz.prog w = .ok (.enter g args) w) (w : World)
    (hs : SlAt w ao n 3 c) (h1 : True) (hp : ∀ i, i < n → PredB g lb (.agg #[c i 0, c i 1, c i 2]) (p i) w) :
    Calls Tryz.prog 200 #[.slice ao n cp, .func (.func g) #[] lb] w fun e w' => e = .returned (.int .i64 (findx p n)) ∧ Below w.heap.size w w' := by
  go_enter Tryz.func200, Tryz.ntmps200
  go_wp2_with fail
  go_loopg [8] n (fun r s8 wr => ∃ i : Nat, i ≤ n ∧ r = n - i ∧ s8 = .int .i64 i ∧ fidx p r i = findx p n ∧ Below w.heap.size w wr)
  case atStart => exact ⟨0, by omega, rfl, rfl, rfl, Below.refl _ _⟩
  case round =>
    obtain ⟨i, hi, rfl, rfl, he, hb⟩ := hrel
    by_cases hlt : i < n
    · rcases hs.below hb with h0 | ⟨a, off, rfl, hcs⟩
      · omega
      have hpi := hp i hlt wr hb
      obtain ⟨r, hr⟩ : ∃ r, n - i = r + 1 := ⟨n - i - 1, by omega⟩
      rw [hr, fidx] at he
      have HE := Lib.hid he; clear he
      have HR := Lib.hid hr; clear hr
      have hlt2 : (i : Int) < n := by omega
      have d0 := hcs i hlt 0 (by omega); have d1 := hcs i hlt 1 (by omega); have d2 := hcs i hlt 2 (by omega); simp only [Nat.add_zero] at d0
      clear hcs
      generalize hq : p i = q at hpi HE
      clear hq
      go_wp2_with fail
      refine hpi.mono ?_
      rintro e W1 ⟨rfl, hb1⟩
      cases q
      · go_wp2_with fail
        go_roundg r
        case measure => have := HR.out; omega
        case rel => exact ⟨i + 1, by omega, by have := HR.out; omega, by go_num, by simpa using HE.out, hb.trans (hb1.mono hb.size)⟩
      · go_wp2_with fail
        go_ret
        exact ⟨by rw [← HE.out]; rfl, hb.trans (hb1.mono hb.size)⟩
    · obtain rfl : i = n := by omega
      go_wp2
      go_ret
      rw [Nat.sub_self] at he
      exact ⟨by rw [← he]; rfl, hb⟩
set_option maxHeartbeats 1000000 in
theorem containsFunc_source (ao : Option Addr) (n cp : Nat) (hn : n ≤ 100000) (c : Nat → Nat → Value) (p : Nat → Bool) (g : Nat) (lb : Array Value) (eg : ∀ args w, (callFunc g args).run Tryz.prog w = .ok (.enter g args) w) (w : World)
    (hs : SlAt w ao n 3 c) (hp : ∀ i, i < n → PredB g lb (.agg #[c i 0, c i 1, c i 2]) (p i) w) :
    Calls Tryz.prog 169 #[.slice ao n cp, .func (.func g) #[] lb] w fun e w' => e = .returned (.bool (anyx p n)) ∧ Below w.heap.size w w' := by
  have hI := indexFunc_source ao n cp hn c p g lb eg w hs trivial hp
  unfold anyx
  generalize findx p n = r at hI ⊢
  go_enter Tryz.func169, Tryz.ntmps169
  go_wp2_with fail
  refine hI.mono ?_
  rintro e w1 ⟨rfl, hb⟩
  by_cases hr : 0 ≤ r
  · go_wp2_with fail
    go_ret
    exact ⟨by simp [hr], hb⟩
  · go_wp2_with fail
    go_ret
    exact ⟨by simp [hr], hb⟩
set_option maxHeartbeats 1000000 in
theorem indexFunc_dest (ao : Option Addr) (n cp : Nat) (hn : n ≤ 100000) (c : Nat → Nat → Value) (p : Nat → Bool) (g : Nat) (lb : Array Value) (eg : ∀ args w, (callFunc g args).run Tryz.prog w = .ok (.enter g args) w) (w : World)
    (hs : SlAt w ao n 2 c) (h1 : True) (hp : ∀ i, i < n → PredB g lb (.agg #[c i 0, c i 1]) (p i) w) :
    Calls Tryz.prog 175 #[.slice ao n cp, .func (.func g) #[] lb] w fun e w' => e = .returned (.int .i64 (findx p n)) ∧ Below w.heap.size w w' := by
  go_enter Tryz.func175, Tryz.ntmps175
  go_wp2_with fail
  go_loopg [8] n (fun r s8 wr => ∃ i : Nat, i ≤ n ∧ r = n - i ∧ s8 = .int .i64 i ∧ fidx p r i = findx p n ∧ Below w.heap.size w wr)
  case atStart => exact ⟨0, by omega, rfl, rfl, rfl, Below.refl _ _⟩
  case round =>
    obtain ⟨i, hi, rfl, rfl, he, hb⟩ := hrel
    by_cases hlt : i < n
    · rcases hs.below hb with h0 | ⟨a, off, rfl, hcs⟩
      · omega
      have hpi := hp i hlt wr hb
      obtain ⟨r, hr⟩ : ∃ r, n - i = r + 1 := ⟨n - i - 1, by omega⟩
      rw [hr, fidx] at he
      have HE := Lib.hid he; clear he
      have HR := Lib.hid hr; clear hr
      have hlt2 : (i : Int) < n := by omega
      have d0 := hcs i hlt 0 (by omega); have d1 := hcs i hlt 1 (by omega); simp only [Nat.add_zero] at d0
      clear hcs
      generalize hq : p i = q at hpi HE
      clear hq
      go_wp2_with fail
      refine hpi.mono ?_
      rintro e W1 ⟨rfl, hb1⟩
      cases q
      · go_wp2_with fail
        go_roundg r
        case measure => have := HR.out; omega
        case rel => exact ⟨i + 1, by omega, by have := HR.out; omega, by go_num, by simpa using HE.out, hb.trans (hb1.mono hb.size)⟩
      · go_wp2_with fail
        go_ret
        exact ⟨by rw [← HE.out]; rfl, hb.trans (hb1.mono hb.size)⟩
    · obtain rfl : i = n := by omega
      go_wp2
      go_ret
      rw [Nat.sub_self] at he
      exact ⟨by rw [← he]; rfl, hb⟩
set_option maxHeartbeats 1000000 in
theorem containsFunc_dest (ao : Option Addr) (n cp : Nat) (hn : n ≤ 100000) (c : Nat → Nat → Value) (p : Nat → Bool) (g : Nat) (lb : Array Value) (eg : ∀ args w, (callFunc g args).run Tryz.prog w = .ok (.enter g args) w) (w : World)
    (hs : SlAt w ao n 2 c) (hp : ∀ i, i < n → PredB g lb (.agg #[c i 0, c i 1]) (p i) w) :
    Calls Tryz.prog 119 #[.slice ao n cp, .func (.func g) #[] lb] w fun e w' => e = .returned (.bool (anyx p n)) ∧ Below w.heap.size w w' := by
  have hI := indexFunc_dest ao n cp hn c p g lb eg w hs trivial hp
  unfold anyx
  generalize findx p n = r at hI ⊢
  go_enter Tryz.func119, Tryz.ntmps119
  go_wp2_with fail
  refine hI.mono ?_
  rintro e w1 ⟨rfl, hb⟩
  by_cases hr : 0 ≤ r
  · go_wp2_with fail
    go_ret
    exact ⟨by simp [hr], hb⟩
  · go_wp2_with fail
    go_ret
    exact ⟨by simp [hr], hb⟩
set_option maxHeartbeats 1000000 in
theorem indexFunc_work (ao : Option Addr) (n cp : Nat) (hn : n ≤ 100000) (c : Nat → Nat → Value) (p : Nat → Bool) (g : Nat) (lb : Array Value) (eg : ∀ args w, (callFunc g args).run Tryz.prog w = .ok (.enter g args) w) (w : World)
    (hs : SlAt w ao n 3 c) (h1 : True) (hp : ∀ i, i < n → PredB g lb (.agg #[c i 0, c i 1, c i 2]) (p i) w) :
    Calls Tryz.prog 201 #[.slice ao n cp, .func (.func g) #[] lb] w fun e w' => e = .returned (.int .i64 (findx p n)) ∧ Below w.heap.size w w' := by
  go_enter Tryz.func201, Tryz.ntmps201
  go_wp2_with fail
  go_loopg [8] n (fun r s8 wr => ∃ i : Nat, i ≤ n ∧ r = n - i ∧ s8 = .int .i64 i ∧ fidx p r i = findx p n ∧ Below w.heap.size w wr)
  case atStart => exact ⟨0, by omega, rfl, rfl, rfl, Below.refl _ _⟩
  case round =>
    obtain ⟨i, hi, rfl, rfl, he, hb⟩ := hrel
    by_cases hlt : i < n
    · rcases hs.below hb with h0 | ⟨a, off, rfl, hcs⟩
      · omega
      have hpi := hp i hlt wr hb
      obtain ⟨r, hr⟩ : ∃ r, n - i = r + 1 := ⟨n - i - 1, by omega⟩
      rw [hr, fidx] at he
      have HE := Lib.hid he; clear he
      have HR := Lib.hid hr; clear hr
      have hlt2 : (i : Int) < n := by omega
      have d0 := hcs i hlt 0 (by omega); have d1 := hcs i hlt 1 (by omega); have d2 := hcs i hlt 2 (by omega); simp only [Nat.add_zero] at d0
      clear hcs
      generalize hq : p i = q at hpi HE
      clear hq
      go_wp2_with fail
      refine hpi.mono ?_
      rintro e W1 ⟨rfl, hb1⟩
      cases q
      · go_wp2_with fail
        go_roundg r
        case measure => have := HR.out; omega
        case rel => exact ⟨i + 1, by omega, by have := HR.out; omega, by go_num, by simpa using HE.out, hb.trans (hb1.mono hb.size)⟩
      · go_wp2_with fail
        go_ret
        exact ⟨by rw [← HE.out]; rfl, hb.trans (hb1.mono hb.size)⟩
    · obtain rfl : i = n := by omega
      go_wp2
      go_ret
      rw [Nat.sub_self] at he
      exact ⟨by rw [← he]; rfl, hb⟩
set_option maxHeartbeats 1000000 in
theorem containsFunc_work (ao : Option Addr) (n cp : Nat) (hn : n ≤ 100000) (c : Nat → Nat → Value) (p : Nat → Bool) (g : Nat) (lb : Array Value) (eg : ∀ args w, (callFunc g args).run Tryz.prog w = .ok (.enter g args) w) (w : World)
    (hs : SlAt w ao n 3 c) (hp : ∀ i, i < n → PredB g lb (.agg #[c i 0, c i 1, c i 2]) (p i) w) :
    Calls Tryz.prog 173 #[.slice ao n cp, .func (.func g) #[] lb] w fun e w' => e = .returned (.bool (anyx p n)) ∧ Below w.heap.size w w' := by
  have hI := indexFunc_work ao n cp hn c p g lb eg w hs trivial hp
  unfold anyx
  generalize findx p n = r at hI ⊢
  go_enter Tryz.func173, Tryz.ntmps173
  go_wp2_with fail
  refine hI.mono ?_
  rintro e w1 ⟨rfl, hb⟩
  by_cases hr : 0 ≤ r
  · go_wp2_with fail
    go_ret
    exact ⟨by simp [hr], hb⟩
  · go_wp2_with fail
    go_ret
    exact ⟨by simp [hr], hb⟩
set_option maxHeartbeats 1000000 in
theorem indexFunc_route (ao : Option Addr) (n cp : Nat) (hn : n ≤ 100000) (c : Nat → Nat → Value) (p : Nat → Bool) (g : Nat) (lb : Array Value) (eg : ∀ args w, (callFunc g args).run Tryz.prog w = .ok (.enter g args) w) (w : World)
    (hs : SlAt w ao n 4 c) (h1 : True) (hp : ∀ i, i < n → PredB g lb (.agg #[c i 0, c i 1, c i 2, c i 3]) (p i) w) :
    Calls Tryz.prog 210 #[.slice ao n cp, .func (.func g) #[] lb] w fun e w' => e = .returned (.int .i64 (findx p n)) ∧ Below w.heap.size w w' := by
  go_enter Tryz.func210, Tryz.ntmps210
  go_wp2_with fail
  go_loopg [8] n (fun r s8 wr => ∃ i : Nat, i ≤ n ∧ r = n - i ∧ s8 = .int .i64 i ∧ fidx p r i = findx p n ∧ Below w.heap.size w wr)
  case atStart => exact ⟨0, by omega, rfl, rfl, rfl, Below.refl _ _⟩
  case round =>
    obtain ⟨i, hi, rfl, rfl, he, hb⟩ := hrel
    by_cases hlt : i < n
    · rcases hs.below hb with h0 | ⟨a, off, rfl, hcs⟩
      · omega
      have hpi := hp i hlt wr hb
      obtain ⟨r, hr⟩ : ∃ r, n - i = r + 1 := ⟨n - i - 1, by omega⟩
      rw [hr, fidx] at he
      have HE := Lib.hid he; clear he
      have HR := Lib.hid hr; clear hr
      have hlt2 : (i : Int) < n := by omega
      have d0 := hcs i hlt 0 (by omega); have d1 := hcs i hlt 1 (by omega); have d2 := hcs i hlt 2 (by omega); have d3 := hcs i hlt 3 (by omega); simp only [Nat.add_zero] at d0
      clear hcs
      generalize hq : p i = q at hpi HE
      clear hq
      go_wp2_with fail
      refine hpi.mono ?_
      rintro e W1 ⟨rfl, hb1⟩
      cases q
      · go_wp2_with fail
        go_roundg r
        case measure => have := HR.out; omega
        case rel => exact ⟨i + 1, by omega, by have := HR.out; omega, by go_num, by simpa using HE.out, hb.trans (hb1.mono hb.size)⟩
      · go_wp2_with fail
        go_ret
        exact ⟨by rw [← HE.out]; rfl, hb.trans (hb1.mono hb.size)⟩
    · obtain rfl : i = n := by omega
      go_wp2
      go_ret
      rw [Nat.sub_self] at he
      exact ⟨by rw [← he]; rfl, hb⟩
set_option maxHeartbeats 1000000 in
theorem containsFunc_route (ao : Option Addr) (n cp : Nat) (hn : n ≤ 100000) (c : Nat → Nat → Value) (p : Nat → Bool) (g : Nat) (lb : Array Value) (eg : ∀ args w, (callFunc g args).run Tryz.prog w = .ok (.enter g args) w) (w : World)
    (hs : SlAt w ao n 4 c) (hp : ∀ i, i < n → PredB g lb (.agg #[c i 0, c i 1, c i 2, c i 3]) (p i) w) :
    Calls Tryz.prog 177 #[.slice ao n cp, .func (.func g) #[] lb] w fun e w' => e = .returned (.bool (anyx p n)) ∧ Below w.heap.size w w' := by
  have hI := indexFunc_route ao n cp hn c p g lb eg w hs trivial hp
  unfold anyx
  generalize findx p n = r at hI ⊢
  go_enter Tryz.func177, Tryz.ntmps177
  go_wp2_with fail
  refine hI.mono ?_
  rintro e w1 ⟨rfl, hb⟩
  by_cases hr : 0 ≤ r
  · go_wp2_with fail
    go_ret
    exact ⟨by simp [hr], hb⟩
  · go_wp2_with fail
    go_ret
    exact ⟨by simp [hr], hb⟩
set_option maxHeartbeats 1000000 in
theorem indexFunc_grant (ao : Option Addr) (n cp : Nat) (hn : n ≤ 100000) (c : Nat → Nat → Value) (p : Nat → Bool) (g : Nat) (lb : Array Value) (eg : ∀ args w, (callFunc g args).run Tryz.prog w = .ok (.enter g args) w) (w : World)
    (hs : SlAt w ao n 5 c) (h1 : True) (hp : ∀ i, i < n → PredB g lb (.agg #[c i 0, c i 1, c i 2, c i 3, c i 4]) (p i) w) :
    Calls Tryz.prog 211 #[.slice ao n cp, .func (.func g) #[] lb] w fun e w' => e = .returned (.int .i64 (findx p n)) ∧ Below w.heap.size w w' := by
  go_enter Tryz.func211, Tryz.ntmps211
  go_wp2_with fail
  go_loopg [8] n (fun r s8 wr => ∃ i : Nat, i ≤ n ∧ r = n - i ∧ s8 = .int .i64 i ∧ fidx p r i = findx p n ∧ Below w.heap.size w wr)
  case atStart => exact ⟨0, by omega, rfl, rfl, rfl, Below.refl _ _⟩
  case round =>
    obtain ⟨i, hi, rfl, rfl, he, hb⟩ := hrel
    by_cases hlt : i < n
    · rcases hs.below hb with h0 | ⟨a, off, rfl, hcs⟩
      · omega
      have hpi := hp i hlt wr hb
      obtain ⟨r, hr⟩ : ∃ r, n - i = r + 1 := ⟨n - i - 1, by omega⟩
      rw [hr, fidx] at he
      have HE := Lib.hid he; clear he
      have HR := Lib.hid hr; clear hr
      have hlt2 : (i : Int) < n := by omega
      have d0 := hcs i hlt 0 (by omega); have d1 := hcs i hlt 1 (by omega); have d2 := hcs i hlt 2 (by omega); have d3 := hcs i hlt 3 (by omega); have d4 := hcs i hlt 4 (by omega); simp only [Nat.add_zero] at d0
      clear hcs
      generalize hq : p i = q at hpi HE
      clear hq
      go_wp2_with fail
      refine hpi.mono ?_
      rintro e W1 ⟨rfl, hb1⟩
      cases q
      · go_wp2_with fail
        go_roundg r
        case measure => have := HR.out; omega
        case rel => exact ⟨i + 1, by omega, by have := HR.out; omega, by go_num, by simpa using HE.out, hb.trans (hb1.mono hb.size)⟩
      · go_wp2_with fail
        go_ret
        exact ⟨by rw [← HE.out]; rfl, hb.trans (hb1.mono hb.size)⟩
    · obtain rfl : i = n := by omega
      go_wp2
      go_ret
      rw [Nat.sub_self] at he
      exact ⟨by rw [← he]; rfl, hb⟩
set_option maxHeartbeats 1000000 in
theorem containsFunc_grant (ao : Option Addr) (n cp : Nat) (hn : n ≤ 100000) (c : Nat → Nat → Value) (p : Nat → Bool) (g : Nat) (lb : Array Value) (eg : ∀ args w, (callFunc g args).run Tryz.prog w = .ok (.enter g args) w) (w : World)
    (hs : SlAt w ao n 5 c) (hp : ∀ i, i < n → PredB g lb (.agg #[c i 0, c i 1, c i 2, c i 3, c i 4]) (p i) w) :
    Calls Tryz.prog 180 #[.slice ao n cp, .func (.func g) #[] lb] w fun e w' => e = .returned (.bool (anyx p n)) ∧ Below w.heap.size w w' := by
  have hI := indexFunc_grant ao n cp hn c p g lb eg w hs trivial hp
  unfold anyx
  generalize findx p n = r at hI ⊢
  go_enter Tryz.func180, Tryz.ntmps180
  go_wp2_with fail
  refine hI.mono ?_
  rintro e w1 ⟨rfl, hb⟩
  by_cases hr : 0 ≤ r
  · go_wp2_with fail
    go_ret
    exact ⟨by simp [hr], hb⟩
  · go_wp2_with fail
    go_ret
    exact ⟨by simp [hr], hb⟩
set_option maxHeartbeats 1000000 in
theorem indexFunc_head (ao : Option Addr) (n cp : Nat) (hn : n ≤ 100000) (c : Nat → Nat → Value) (p : Nat → Bool) (g : Nat) (lb : Array Value) (eg : ∀ args w, (callFunc g args).run Tryz.prog w = .ok (.enter g args) w) (w : World)
    (hs : SlAt w ao n 2 c) (h1 : True) (hp : ∀ i, i < n → PredB g lb (.agg #[c i 0, c i 1]) (p i) w) :
    Calls Tryz.prog 230 #[.slice ao n cp, .func (.func g) #[] lb] w fun e w' => e = .returned (.int .i64 (findx p n)) ∧ Below w.heap.size w w' := by
  go_enter Tryz.func230, Tryz.ntmps230
  go_wp2_with fail
  go_loopg [8] n (fun r s8 wr => ∃ i : Nat, i ≤ n ∧ r = n - i ∧ s8 = .int .i64 i ∧ fidx p r i = findx p n ∧ Below w.heap.size w wr)
  case atStart => exact ⟨0, by omega, rfl, rfl, rfl, Below.refl _ _⟩
  case round =>
    obtain ⟨i, hi, rfl, rfl, he, hb⟩ := hrel
    by_cases hlt : i < n
    · rcases hs.below hb with h0 | ⟨a, off, rfl, hcs⟩
      · omega
      have hpi := hp i hlt wr hb
      obtain ⟨r, hr⟩ : ∃ r, n - i = r + 1 := ⟨n - i - 1, by omega⟩
      rw [hr, fidx] at he
      have HE := Lib.hid he; clear he
      have HR := Lib.hid hr; clear hr
      have hlt2 : (i : Int) < n := by omega
      have d0 := hcs i hlt 0 (by omega); have d1 := hcs i hlt 1 (by omega); simp only [Nat.add_zero] at d0
      clear hcs
      generalize hq : p i = q at hpi HE
      clear hq
      go_wp2_with fail
      refine hpi.mono ?_
      rintro e W1 ⟨rfl, hb1⟩
      cases q
      · go_wp2_with fail
        go_roundg r
        case measure => have := HR.out; omega
        case rel => exact ⟨i + 1, by omega, by have := HR.out; omega, by go_num, by simpa using HE.out, hb.trans (hb1.mono hb.size)⟩
      · go_wp2_with fail
        go_ret
        exact ⟨by rw [← HE.out]; rfl, hb.trans (hb1.mono hb.size)⟩
    · obtain rfl : i = n := by omega
      go_wp2
      go_ret
      rw [Nat.sub_self] at he
      exact ⟨by rw [← he]; rfl, hb⟩
set_option maxHeartbeats 1000000 in
theorem containsFunc_head (ao : Option Addr) (n cp : Nat) (hn : n ≤ 100000) (c : Nat → Nat → Value) (p : Nat → Bool) (g : Nat) (lb : Array Value) (eg : ∀ args w, (callFunc g args).run Tryz.prog w = .ok (.enter g args) w) (w : World)
    (hs : SlAt w ao n 2 c) (hp : ∀ i, i < n → PredB g lb (.agg #[c i 0, c i 1]) (p i) w) :
    Calls Tryz.prog 205 #[.slice ao n cp, .func (.func g) #[] lb] w fun e w' => e = .returned (.bool (anyx p n)) ∧ Below w.heap.size w w' := by
  have hI := indexFunc_head ao n cp hn c p g lb eg w hs trivial hp
  unfold anyx
  generalize findx p n = r at hI ⊢
  go_enter Tryz.func205, Tryz.ntmps205
  go_wp2_with fail
  refine hI.mono ?_
  rintro e w1 ⟨rfl, hb⟩
  by_cases hr : 0 ≤ r
  · go_wp2_with fail
    go_ret
    exact ⟨by simp [hr], hb⟩
  · go_wp2_with fail
    go_ret
    exact ⟨by simp [hr], hb⟩
end Go.Proofs.YteblahoijolegaaGreatDoor
end
