import Derived.Test.YteblahoijolegaaGreatDoorM01
import Derived.Deep.DeepCutAuto
import Derived.BigRegion
import Derived.Deep.RegionHeld3
import Derived.Shelf.Abstract
import Derived.RegionIn
section
set_option linter.all false
namespace Go.Proofs.YteblahoijolegaaGreatDoor
open Go.RowKit
attribute [local go_sem] Oper.semAt_some

structure OrdOk (n : Nat) (up down : List Nat) : Prop where
  pos : 1 ≤ n
  small : n ≤ 10
  ubd : ∀ s ∈ up, s < 2 ^ n
  dbd : ∀ s ∈ down, s < 2 ^ n
theorem OrdOk.lt {n : Nat} (h : n ≤ 10) : 2 ^ n ≤ 1024 := Nat.pow_le_pow_right (by omega) h
theorem OrdMem.at {w b bu bd n up down} (h : OrdMem w b bu bd n up down) (k : OrdOk n up down) : OrdAt w b bu bd up down :=
  { len := h.lu.trans h.ld.symm, small := by rw [h.lu]; exact k.small, ubd := fun s hs => Nat.lt_of_lt_of_le (k.ubd s hs) (OrdOk.lt k.small), dbd := fun s hs => Nat.lt_of_lt_of_le (k.dbd s hs) (OrdOk.lt k.small),
    blk := by rw [h.lu]; exact h.blk, up := h.up, down := h.down, ne := h.ne, ne1 := h.ne1, ne2 := h.ne2 }
theorem OrdMem.kept {w w' : World} {b bu bd n : Nat} {up down : List Nat} (h : OrdMem w b bu bd n up down) {keep : Nat → Prop} (hk : Kept keep w w') (h0 : keep b) (h1 : keep bu) (h2 : keep bd) : OrdMem w' b bu bd n up down :=
  { h with blk := (hk.block _ (Array.getElem?_eq_some_iff.1 h.blk).1 h0).trans h.blk, up := (hk.block _ (Array.getElem?_eq_some_iff.1 h.up).1 h1).trans h.up, down := (hk.block _ (Array.getElem?_eq_some_iff.1 h.down).1 h2).trans h.down }
def orAt (l : List Nat) (v : Nat) (is : List Nat) : List Nat := is.foldl (fun l a => l.set a (l[a]?.getD 0 ||| v)) l
def addUp (up down : List Nat) (low high : Nat) : List Nat := orAt up (up[high]?.getD 0) (lows (down[low]?.getD 0))
def addDown (up down : List Nat) (low high : Nat) : List Nat := orAt down (down[low]?.getD 0) (lows (up[high]?.getD 0))
def inO (n : Nat) (a : Int) : Bool := decide (0 ≤ a ∧ a < n)


theorem orAt_snoc (l : List Nat) (v : Nat) (p : List Nat) (x : Nat) : orAt l v (p ++ [x]) = (orAt l v p).set x ((orAt l v p)[x]?.getD 0 ||| v) := by simp [orAt]
theorem orAt_len (l : List Nat) (v : Nat) (p : List Nat) : (orAt l v p).length = l.length := by
  unfold orAt
  induction p generalizing l with
  | nil => rfl
  | cons x p ih => simp only [List.foldl_cons]; rw [ih]; simp
theorem orAt_lt {n : Nat} (l : List Nat) (v : Nat) (p : List Nat) (h : ∀ s ∈ l, s < 2 ^ n) (hv : v < 2 ^ n) : ∀ s ∈ orAt l v p, s < 2 ^ n := by
  unfold orAt
  induction p generalizing l with
  | nil => exact h
  | cons x p ih =>
    simp only [List.foldl_cons]
    refine ih _ fun s hs => ?_
    rcases List.mem_or_eq_of_mem_set hs with hs | rfl
    · exact h _ hs
    · refine Nat.or_lt_two_pow ?_ hv
      rcases Nat.lt_or_ge x l.length with hx | hx
      · simp only [List.getElem?_eq_getElem hx, Option.getD_some]; exact h _ (List.getElem_mem hx)
      · simp only [List.getElem?_eq_none hx, Option.getD_none]; exact Nat.two_pow_pos n
theorem getD_lt2 {n : Nat} {l : List Nat} (h : ∀ s ∈ l, s < 2 ^ n) (i : Nat) : l[i]?.getD 0 < 2 ^ n := by
  rcases Nat.lt_or_ge i l.length with hi | hi
  · simp [hi]; exact h _ (List.getElem_mem hi)
  · simp [hi]; exact Nat.two_pow_pos n
theorem lows_lt {n s x : Nat} (h : s < 2 ^ n) (hx : x ∈ lows s) : x < n := by
  simp only [lows, List.mem_filter] at hx
  rcases Nat.lt_or_ge x n with h1 | h1
  · exact h1
  · rw [Nat.testBit_lt_two_pow (Nat.lt_of_lt_of_le h (Nat.pow_le_pow_right (by omega) h1))] at hx; simp at hx
theorem mem_pre {α : Type} {pre : List α} {x : α} {l : List α} (h : pre ++ [x] <+: l) : x ∈ l := h.subset (by simp)
theorem db_ne {w : World} {b : Nat} {l : List Nat} {t : TypeId} (hd : DbAt w) (h : w.heap[b]? = some (.cells (rowOf l) t)) (hl : 1 ≤ l.length) : b ≠ 0 := by
  rintro rfl
  have h1 := hd 0 (by omega)
  rw [cell_of h, rowOf_get _ _ hl] at h1
  simp at h1
theorem or_u32 (a b : Nat) (ha : a < 1024) (hb : b < 1024) : bits .or .u32 (a : Int) (b : Int) = ((a ||| b : Nat) : Int) := u32_or_nat a b (by omega) (by omega)

set_option maxHeartbeats 1000000 in
set_option maxRecDepth 100000 in
theorem add_range1 {w b bu bd n up down} (h : OrdMem w b bu bd n up down) (k : OrdOk n up down) (low high : Int) (hr : ¬ (0 ≤ low ∧ low < n)) :
    Calls Tryz.prog 90 #[.pointer (some ⟨b, 0, none⟩), .int .i64 low, .int .i64 high] w fun e w' => e = .returned (.int .i64 9) ∧ Below w.heap.size w w' := by
  have hat := h.at k
  have hl := h.lu
  have hp := k.pos
  have hz : ((up.length : Int) == 0) = false := by rw [beq_eq_false_iff_ne]; omega
  have hat1 := hat.below ((Below.refl w.heap.size w).alloc (Nat.le_refl _) (.cells #[Value.pointer (some ⟨b, 0, none⟩)] 170))
  refine calls_of_marks Tryz.func90 rfl ?_; simp only [Tryz.ntmps90, List.size_toArray, List.length_cons, List.length_nil, Nat.reduceAdd, Nat.reduceSub, Array.replicate_succ, Array.replicate_zero, List.push_toArray, List.append_toArray, List.nil_append, List.cons_append]
  go_wp2_with fail
  refine (order_Many hat1).mono ?_; rintro e w' ⟨rfl, rfl⟩
  go_wp2_with fail
  refine (order_is hat1 _).mono ?_; rintro e w' ⟨rfl, rfl⟩
  rw [hl, decide_eq_false hr]
  go_wp2_with fail
  exact ⟨_, results_tmp rfl _ _ _, rfl, (Below.refl _ w).alloc (Nat.le_refl _) _⟩
set_option maxHeartbeats 1000000 in
set_option maxRecDepth 100000 in
theorem add_range2 {w b bu bd n up down} (h : OrdMem w b bu bd n up down) (k : OrdOk n up down) (low high : Int) (hr : 0 ≤ low ∧ low < n) (hr2 : ¬ (0 ≤ high ∧ high < n)) :
    Calls Tryz.prog 90 #[.pointer (some ⟨b, 0, none⟩), .int .i64 low, .int .i64 high] w fun e w' => e = .returned (.int .i64 9) ∧ Below w.heap.size w w' := by
  have hat := h.at k
  have hl := h.lu
  have hp := k.pos
  have hz : ((up.length : Int) == 0) = false := by rw [beq_eq_false_iff_ne]; omega
  have hat1 := hat.below ((Below.refl w.heap.size w).alloc (Nat.le_refl _) (.cells #[Value.pointer (some ⟨b, 0, none⟩)] 170))
  refine calls_of_marks Tryz.func90 rfl ?_; simp only [Tryz.ntmps90, List.size_toArray, List.length_cons, List.length_nil, Nat.reduceAdd, Nat.reduceSub, Array.replicate_succ, Array.replicate_zero, List.push_toArray, List.append_toArray, List.nil_append, List.cons_append]
  go_wp2_with fail
  refine (order_Many hat1).mono ?_; rintro e w' ⟨rfl, rfl⟩
  go_wp2_with fail
  refine (order_is hat1 _).mono ?_; rintro e w' ⟨rfl, rfl⟩
  rw [hl, decide_eq_true hr]
  go_wp2_with fail
  refine (order_is hat1 _).mono ?_; rintro e w' ⟨rfl, rfl⟩
  rw [hl, decide_eq_false hr2]
  go_wp2_with fail
  exact ⟨_, results_tmp rfl _ _ _, rfl, (Below.refl _ w).alloc (Nat.le_refl _) _⟩
set_option maxHeartbeats 1000000 in
set_option maxRecDepth 100000 in
theorem add_cycle {w b bu bd n up down} (h : OrdMem w b bu bd n up down) (k : OrdOk n up down) (low high over : Nat) (h1 : low < n) (h2 : high < n) (ho : up[high]?.getD 0 = over) (hc : over.testBit low = true) :
    Calls Tryz.prog 90 #[.pointer (some ⟨b, 0, none⟩), .int .i64 low, .int .i64 high] w fun e w' => e = .returned (.int .i64 20) ∧ Below w.heap.size w w' := by
  have hat := h.at k
  have hl := h.lu
  have c0 := hat.c0
  rw [hl] at c0
  have hlt := hat.lt
  have n1 : ¬ b = w.heap.size := by omega
  have n2 : ¬ bu = w.heap.size := by omega
  have n3 : ¬ bd = w.heap.size := by omega
  have lb0 : b < w.heap.size := by omega
  have lb1 : b < w.heap.size + 1 := by omega
  have lb2 : b < w.heap.size + 2 := by omega
  have lb3 : b < w.heap.size + 3 := by omega
  have lbu0 : bu < w.heap.size := by omega
  have lbu1 : bu < w.heap.size + 1 := by omega
  have lbu2 : bu < w.heap.size + 2 := by omega
  have lbu3 : bu < w.heap.size + 3 := by omega
  have lbd0 : bd < w.heap.size := by omega
  have lbd1 : bd < w.heap.size + 1 := by omega
  have lbd2 : bd < w.heap.size + 2 := by omega
  have lbd3 : bd < w.heap.size + 3 := by omega
  have cu := hat.cu (i := high) (by omega)
  have hbd := getD_lt hat.ubd high
  rw [ho] at cu hbd
  have hi1 : (high : Int) < up.length := by omega
  have hi2 : (low : Int) < up.length := by omega
  have hs16 : low < 16 := by have := k.small; omega
  have HO := Lib.hid ho; clear ho
  have hat := h.at k
  have hl := h.lu
  have hp := k.pos
  have hz : ((up.length : Int) == 0) = false := by rw [beq_eq_false_iff_ne]; omega
  have hat1 := hat.below ((Below.refl w.heap.size w).alloc (Nat.le_refl _) (.cells #[Value.pointer (some ⟨b, 0, none⟩)] 170))
  refine calls_of_marks Tryz.func90 rfl ?_; simp only [Tryz.ntmps90, List.size_toArray, List.length_cons, List.length_nil, Nat.reduceAdd, Nat.reduceSub, Array.replicate_succ, Array.replicate_zero, List.push_toArray, List.append_toArray, List.nil_append, List.cons_append]
  go_wp2_with fail
  refine (order_Many hat1).mono ?_; rintro e w' ⟨rfl, rfl⟩
  go_wp2_with fail
  refine (order_is hat1 _).mono ?_; rintro e w' ⟨rfl, rfl⟩
  rw [hl, decide_eq_true (by omega)]
  go_wp2_with fail
  refine (order_is hat1 _).mono ?_; rintro e w' ⟨rfl, rfl⟩
  rw [hl, decide_eq_true (by omega)]
  go_wp2_with fail
  refine (has_any over low _ (by omega) hs16).mono ?_; rintro e w' ⟨rfl, rfl⟩
  rw [hc]
  go_wp2_with fail
  exact ⟨_, results_tmp rfl _ _ _, rfl, (Below.refl _ w).alloc (Nat.le_refl _) _⟩
set_option maxHeartbeats 8000000 in
set_option maxRecDepth 100000 in
theorem add_ok {w b bu bd n up down} (h : OrdMem w b bu bd n up down) (k : OrdOk n up down) (low high over under : Nat) (h1 : low < n) (h2 : high < n) (ho : up[high]?.getD 0 = over) (hu : down[low]?.getD 0 = under) (hc : over.testBit low = false) (ht : DbAt w) :
    Calls Tryz.prog 90 #[.pointer (some ⟨b, 0, none⟩), .int .i64 low, .int .i64 high] w fun e w' => e = .returned (.int .i64 0) ∧
      OrdMem w' b bu bd n (orAt up over (lows under)) (orAt down under (lows over)) ∧ Kept (fun x => x ≠ bu ∧ x ≠ bd) w w' := by
  have cd := (h.at k).cd (i := low) (by have := h.lu; omega)
  have c1 := (h.at k).c1
  rw [h.lu] at c1
  have hbd2 := getD_lt (h.at k).dbd low
  rw [hu] at cd hbd2
  have HU := Lib.hid hu; clear hu
  have e1 := World.new_ne w _ cd
  have e2 := World.new_ne w _ c1
  have e3 := World.new_ne w _ ((h.at k).cu (i := high) (by have := h.lu; omega))
  have hat := h.at k
  have hl := h.lu
  have c0 := hat.c0
  rw [hl] at c0
  have hlt := hat.lt
  have n1 : ¬ b = w.heap.size := by omega
  have n2 : ¬ bu = w.heap.size := by omega
  have n3 : ¬ bd = w.heap.size := by omega
  have lb0 : b < w.heap.size := by omega
  have lb1 : b < w.heap.size + 1 := by omega
  have lb2 : b < w.heap.size + 2 := by omega
  have lb3 : b < w.heap.size + 3 := by omega
  have lbu0 : bu < w.heap.size := by omega
  have lbu1 : bu < w.heap.size + 1 := by omega
  have lbu2 : bu < w.heap.size + 2 := by omega
  have lbu3 : bu < w.heap.size + 3 := by omega
  have lbd0 : bd < w.heap.size := by omega
  have lbd1 : bd < w.heap.size + 1 := by omega
  have lbd2 : bd < w.heap.size + 2 := by omega
  have lbd3 : bd < w.heap.size + 3 := by omega
  have cu := hat.cu (i := high) (by omega)
  have hbd := getD_lt hat.ubd high
  rw [ho] at cu hbd
  have hi1 : (high : Int) < up.length := by omega
  have hi2 : (low : Int) < up.length := by omega
  have hs16 : low < 16 := by have := k.small; omega
  have HO := Lib.hid ho; clear ho
  have hat := h.at k
  have hl := h.lu
  have hp := k.pos
  have hz : ((up.length : Int) == 0) = false := by rw [beq_eq_false_iff_ne]; omega
  have hat1 := hat.below ((Below.refl w.heap.size w).alloc (Nat.le_refl _) (.cells #[Value.pointer (some ⟨b, 0, none⟩)] 170))
  refine calls_of_marks Tryz.func90 rfl ?_; simp only [Tryz.ntmps90, List.size_toArray, List.length_cons, List.length_nil, Nat.reduceAdd, Nat.reduceSub, Array.replicate_succ, Array.replicate_zero, List.push_toArray, List.append_toArray, List.nil_append, List.cons_append]
  go_wp2_with fail
  refine (order_Many hat1).mono ?_; rintro e w' ⟨rfl, rfl⟩
  go_wp2_with fail
  refine (order_is hat1 _).mono ?_; rintro e w' ⟨rfl, rfl⟩
  rw [hl, decide_eq_true (by omega)]
  go_wp2_with fail
  refine (order_is hat1 _).mono ?_; rintro e w' ⟨rfl, rfl⟩
  rw [hl, decide_eq_true (by omega)]
  go_wp2_with fail
  refine (has_any over low _ (by omega) hs16).mono ?_; rintro e w' ⟨rfl, rfl⟩
  rw [hc]
  go_upto_region 8 with fail
  go_cut [7, 8] from 34 (fun s7 s8 wx => ∃ bx by' : Nat, s7 = .pointer (some ⟨bx, 0, none⟩) ∧ s8 = .pointer (some ⟨by', 0, none⟩) ∧ wx.heap[bx]? = some (.cells #[.int .u32 (under : Nat)] 229) ∧ wx.heap[by']? = some (.cells #[.int .u32 (over : Nat)] 229) ∧ Below (w.heap.size + 1) (w.alloc (.cells #[Value.pointer (some ⟨b, 0, none⟩)] 170)) wx ∧ w.heap.size < bx ∧ w.heap.size < by')
  case first =>
    go_region_held3 (fun w' => w'.cell? ⟨w.heap.size, 0, none⟩ = some (.pointer (some ⟨b, 0, none⟩)) ∧ w'.cell? ⟨b, 0, none⟩ = some (.slice (some ⟨bu, 0, none⟩) n n) ∧ w'.cell? ⟨b, 1, none⟩ = some (.slice (some ⟨bd, 0, none⟩) n n) ∧ w'.cell? ⟨bu, high, none⟩ = some (.int .u32 (over : Nat)) ∧ w'.cell? ⟨bd, low, none⟩ = some (.int .u32 (under : Nat))) ((repeat' apply And.intro) <;> (repeat (first | rw [cell_drew] | rw [cell_set_ne (by (try simp only [World.size_alloc, size_drew, size_set]); omega)] | rw [cell_alloc_lt (by (try simp only [World.size_alloc, size_drew, size_set]); omega)])) <;> (first | assumption | (simp; done))) (fail)
    all_goals (go_wp2_with fail)
    all_goals (go_meet; first | exact ⟨w.heap.size + 1, w.heap.size + 1 + 1, rfl, rfl, by (simp only [heap_drew, heap_allocs, World.size_alloc, if_true] <;> repeat (first | rw [if_pos (by omega)] | rw [if_neg (by omega)])), by (simp only [heap_drew, heap_allocs, World.size_alloc, if_true] <;> repeat (first | rw [if_pos (by omega)] | rw [if_neg (by omega)])), by (repeat first | exact Below.refl _ _ | assumption | refine Below.alloc ?_ (by simp; try omega) _ | refine Below.drew ?_ | refine Below.drewN ?_ _ | refine Below.setCell ?_ (by simp; try omega) _ | refine Below.trans ?_ (Below.mono (by assumption) (by simp; try omega))), by omega, by omega⟩ | exact ⟨w.heap.size + 1 + 1, w.heap.size + 1, rfl, rfl, by (simp only [heap_drew, heap_allocs, World.size_alloc, if_true] <;> repeat (first | rw [if_pos (by omega)] | rw [if_neg (by omega)])), by (simp only [heap_drew, heap_allocs, World.size_alloc, if_true] <;> repeat (first | rw [if_pos (by omega)] | rw [if_neg (by omega)])), by (repeat first | exact Below.refl _ _ | assumption | refine Below.alloc ?_ (by simp; try omega) _ | refine Below.drew ?_ | refine Below.drewN ?_ _ | refine Below.setCell ?_ (by simp; try omega) _ | refine Below.trans ?_ (Below.mono (by assumption) (by simp; try omega))), by omega, by omega⟩)
  case rest =>
    obtain ⟨bx, by', rfl, rfl, hx, hy, hb, g1, g2⟩ := hcut
    have hsz := hb.size
    simp only [World.size_alloc] at hsz
    have hbo : wc.heap[w.heap.size]? = some (.cells #[Value.pointer (some ⟨b, 0, none⟩)] 170) := (hb.block _ (by omega)).trans (heap_new w _)
    have hkw : Kept (fun x => x ≠ bu ∧ x ≠ bd) w wc := ⟨hb.os, hb.tape, hb.output, by omega, fun k hk _ => (hb.block k (by omega)).trans (heap_old hk)⟩
    have hkl : Kept (fun x => x < w.heap.size) w wc := ⟨hb.os, hb.tape, hb.output, by omega, fun k hk _ => (hb.block k (by omega)).trans (heap_old hk)⟩
    have hm : OrdMem wc b bu bd n up down := h.kept hkl hlt.1 hlt.2.1 hlt.2.2
    have htc : DbAt wc := ht.kept hkl (by show (0 : Nat) < _; omega)
    have cx : wc.cell? ⟨bx, 0, none⟩ = some (.int .u32 (under : Nat)) := by rw [cell_of hx]; rfl
    have hpos : 0 < w.heap.size := by show (0 : Nat) < _; omega
    have hxl : bx < wc.heap.size := (Array.getElem?_eq_some_iff.1 hx).1
    have hyl : by' < wc.heap.size := (Array.getElem?_eq_some_iff.1 hy).1
    have hu0 : bu ≠ 0 := db_ne ht h.up (by rw [h.lu]; exact k.pos)
    have hd0 : bd ≠ 0 := db_ne ht h.down (by rw [h.ld]; exact k.pos)
    have hov : over < 2 ^ n := by rw [← HO.out]; exact getD_lt2 k.ubd high
    have hun : under < 2 ^ n := by rw [← HU.out]; exact getD_lt2 k.dbd low
    have hn10 := OrdOk.lt k.small
    go_wp2_with fail
    refine (set_all under _).mono ?_; rintro e w' ⟨rfl, rfl⟩
    go_wp2_with fail
    refine (wpIn_wide (n := 0)).1 ?_
    refine' wp_range (gf := 189) (lb := #[.pointer (some ⟨wc.heap.size, 0, none⟩)]) rfl (enters_of Tryz.func189 (by kernel_rfl) rfl)
      (all1_iter wc.heap.size under _ hbd2 (heap_new wc _) (htc.kept (keep := fun _ => True) ((Kept.refl _ wc).alloc _) trivial) (by omega)) (fun _ => rfl) (fun k hk => by rcases hk with rfl | rfl <;> simp <;> omega) (fun k hk => .inl hk)
      (fun pre W => OrdMem W b bu bd n (orAt up over pre) down ∧ W.heap[w.heap.size]? = some (.cells #[Value.pointer (some ⟨b, 0, none⟩)] 170) ∧ W.heap[by']? = some (.cells #[.int .u32 (over : Nat)] 229) ∧ DbAt W ∧ Kept (fun x => x ≠ bu ∧ x ≠ bd) w W ∧ wc.heap.size < W.heap.size ∧ W.heap[bx]? = some (.cells #[.int .u32 (under : Nat)] 229))
      ?hI ?h0 _ ?hassign ?hbody ?hdone
    case hI =>
      rintro pre A B ⟨i1, i2, i4, i5, i6, i7, hBX⟩ - hk
      exact ⟨i1.kept hk ⟨by (first | omega | (simp; done) | (simp; omega)), by (first | omega | (simp; done) | (simp; omega))⟩ ⟨by (first | omega | (simp; done) | (simp; omega)), by (first | omega | (simp; done) | (simp; omega))⟩ ⟨by (first | omega | (simp; done) | (simp; omega)), by (first | omega | (simp; done) | (simp; omega))⟩, (hk.block _ (by omega) ⟨by (first | omega | (simp; done) | (simp; omega)), by (first | omega | (simp; done) | (simp; omega))⟩).trans i2, (hk.block _ (by omega) ⟨by (first | omega | (simp; done) | (simp; omega)), by (first | omega | (simp; done) | (simp; omega))⟩).trans i4, i5.kept hk ⟨by (first | omega | (simp; done) | (simp; omega)), by (first | omega | (simp; done) | (simp; omega))⟩,
        i6.trans2 hk (fun x hx hh => ⟨by (first | omega | (simp; done) | (simp; omega)), by (first | omega | (simp; done) | (simp; omega))⟩), Nat.lt_of_lt_of_le i7 hk.size, (hk.block _ (by omega) ⟨by (first | omega | (simp; done) | (simp; omega)), by (first | omega | (simp; done) | (simp; omega))⟩).trans hBX⟩
    case h0 =>
      intro V hV hVs
      have hV2 := ((Kept.refl (fun _ => True) wc).alloc _).trans hV
      exact ⟨hm.kept hV2 trivial trivial trivial, (hV2.block _ (by omega) trivial).trans hbo, (hV2.block _ (by omega) trivial).trans hy, htc.kept hV2 trivial, hkw.trans2 hV2 (fun _ _ _ => trivial), by simp at hVs; omega, (hV2.block _ (by omega) trivial).trans hx⟩
    case hassign =>
      intro l x W K hK
      gi_wp2
      exact hK
    case hbody =>
      rintro l pre x W hpx ⟨i1, i2, i4, i5, i6, i7, hBX⟩ hsz2 hDf hLp
      have hxn : x < n := lows_lt hun (mem_pre hpx)
      have c0 : W.cell? ⟨w.heap.size, 0, none⟩ = some (.pointer (some ⟨b, 0, none⟩)) := by rw [cell_of i2]; rfl
      have c1 : W.cell? ⟨b, 0, none⟩ = some (.slice (some ⟨bu, 0, none⟩) n n) := by rw [cell_of i1.blk]; rfl
      obtain ⟨v, hv⟩ : ∃ v, (orAt up over pre)[x]?.getD 0 = v := ⟨_, rfl⟩
      have hv2 : v < 2 ^ n := by rw [← hv]; exact getD_lt2 (orAt_lt up over pre k.ubd hov) x
      have c2 : W.cell? ⟨bu, x, none⟩ = some (.int .u32 (v : Nat)) := by rw [cell_of i1.up, rowOf_get _ _ (by rw [i1.lu]; exact hxn), hv]
      have c3 : W.cell? ⟨by', 0, none⟩ = some (.int .u32 (over : Nat)) := by rw [cell_of i4]; rfl
      have f2 : W.frozen? ⟨bu, x, none⟩ = false := free_of i1.up
      have hx2 : (x : Int) < (n : Int) := by omega
      have hW2 : ∀ W2, W2 = (W.setCell ⟨bu, x, none⟩ (.int .u32 (bits .or .u32 (v : Int) (over : Int)))).drew → 
          (OrdMem W2 b bu bd n (orAt up over (pre ++ [x])) down ∧ W2.heap[w.heap.size]? = some (.cells #[Value.pointer (some ⟨b, 0, none⟩)] 170) ∧ W2.heap[by']? = some (.cells #[.int .u32 (over : Nat)] 229) ∧ DbAt W2 ∧ Kept (fun x => x ≠ bu ∧ x ≠ bd) w W2 ∧ wc.heap.size < W2.heap.size ∧ W2.heap[bx]? = some (.cells #[.int .u32 (under : Nat)] 229)) ∧
          Kept (fun k => (k = wc.heap.size ∨ k = 0) ∨ k = (wc.alloc (Obj.cells #[Value.int IntKind.u32 ↑under] 229)).heap.size ∨ k = (wc.alloc (Obj.cells #[Value.int IntKind.u32 ↑under] 229)).heap.size + 1) W W2 := by
        rintro W2 rfl
        rw [or_u32 _ _ (by omega) (by omega)]
        refine ⟨⟨?_, (heap_setne _ (by omega)).trans i2, (heap_setne _ (by omega)).trans i4, i5.kept (keep := (· ≠ bu)) (((Kept.refl _ W).setCell (by simp) _).drew) (Ne.symm hu0), (i6.setCell (by simp) _).drew, by rw [size_drew, size_set]; exact i7, (heap_setne _ (by omega)).trans hBX⟩, ((Kept.refl _ W).setCell (by (first | omega | (simp; done) | (simp; omega))) _).drew⟩
        rw [orAt_snoc, hv]
        exact (i1.setU x (v ||| over)).drew
      have HV := Lib.hid hv; clear hv
      have HW := Lib.hid hW2; clear hW2 hDf hLp
      gi_wp2_with fail
      gi_region
      all_goals exact ⟨rfl, HW.out _ rfl⟩
    case hdone =>
      rintro D W1 hD ⟨i1, i2, i4, i5, i6, i7, hBX⟩ hK1 hz1
      simp only [World.size_alloc] at hD
      obtain ⟨up1, hup1⟩ : ∃ up1, orAt up over (lows under) = up1 := ⟨_, rfl⟩
      rw [hup1] at i1
      have HU1 := Lib.hid hup1; clear hup1
      have cy : W1.cell? ⟨by', 0, none⟩ = some (.int .u32 (over : Nat)) := by rw [cell_of i4]; rfl
      go_wp2_with fail
      refine (set_all over _).mono ?_; rintro e w' ⟨rfl, rfl⟩
      go_wp2_with fail
      refine (wpIn_wide (n := 0)).1 ?_
      refine' wp_range (gf := 189) (lb := #[.pointer (some ⟨W1.heap.size, 0, none⟩)]) rfl (enters_of Tryz.func189 (by kernel_rfl) rfl)
        (all1_iter W1.heap.size over _ (by omega) (heap_new W1 _) (i5.kept (keep := fun _ => True) ((Kept.refl _ W1).alloc _) trivial) (by omega)) (fun _ => rfl) (fun k hk => by rcases hk with rfl | rfl <;> simp <;> omega) (fun k hk => .inl hk)
        (fun pre W => OrdMem W b bu bd n up1 (orAt down under pre) ∧ W.heap[w.heap.size]? = some (.cells #[Value.pointer (some ⟨b, 0, none⟩)] 170) ∧ W.heap[bx]? = some (.cells #[.int .u32 (under : Nat)] 229) ∧ W.heap[D]? = some (.deferred (some [])) ∧ Kept (fun x => x ≠ bu ∧ x ≠ bd) w W ∧ W1.heap.size < W.heap.size)
        ?hI ?h0 _ ?hassign ?hbody ?hdone
      case hI =>
        rintro pre A B ⟨j1, j2, j4, j5, j6, j7⟩ - hk
        exact ⟨j1.kept hk ⟨by (first | omega | (simp; done) | (simp; omega)), by (first | omega | (simp; done) | (simp; omega))⟩ ⟨by (first | omega | (simp; done) | (simp; omega)), by (first | omega | (simp; done) | (simp; omega))⟩ ⟨by (first | omega | (simp; done) | (simp; omega)), by (first | omega | (simp; done) | (simp; omega))⟩, (hk.block _ (by omega) ⟨by (first | omega | (simp; done) | (simp; omega)), by (first | omega | (simp; done) | (simp; omega))⟩).trans j2, (hk.block _ (by omega) ⟨by (first | omega | (simp; done) | (simp; omega)), by (first | omega | (simp; done) | (simp; omega))⟩).trans j4, (hk.block _ (by omega) ⟨by (first | omega | (simp; done) | (simp; omega)), by (first | omega | (simp; done) | (simp; omega))⟩).trans j5,
          j6.trans2 hk (fun x hx hh => ⟨by (first | omega | (simp; done) | (simp; omega)), by (first | omega | (simp; done) | (simp; omega))⟩), Nat.lt_of_lt_of_le j7 hk.size⟩
      case h0 =>
        intro V hV hVs
        have hV2 := ((Kept.refl (fun _ => True) W1).alloc _).trans hV
        exact ⟨i1.kept hV2 trivial trivial trivial, (hV2.block _ (by omega) trivial).trans i2, (hV2.block _ (by omega) trivial).trans hBX, (hV2.block _ (by omega) trivial).trans hK1, i6.trans2 hV2 (fun _ _ _ => trivial), by simp at hVs; omega⟩
      case hassign =>
        intro l x W K hK
        gi_wp2
        exact hK
      case hbody =>
        rintro l pre x W hpx ⟨j1, j2, j4, j5, j6, j7⟩ hsz2 hDf hLp
        have hxn : x < n := lows_lt hov (mem_pre hpx)
        have c0 : W.cell? ⟨w.heap.size, 0, none⟩ = some (.pointer (some ⟨b, 0, none⟩)) := by rw [cell_of j2]; rfl
        have c1 : W.cell? ⟨b, 1, none⟩ = some (.slice (some ⟨bd, 0, none⟩) n n) := by rw [cell_of j1.blk]; rfl
        obtain ⟨v, hv⟩ : ∃ v, (orAt down under pre)[x]?.getD 0 = v := ⟨_, rfl⟩
        have hv2 : v < 2 ^ n := by rw [← hv]; exact getD_lt2 (orAt_lt down under pre k.dbd hun) x
        have c2 : W.cell? ⟨bd, x, none⟩ = some (.int .u32 (v : Nat)) := by rw [cell_of j1.down, rowOf_get _ _ (by rw [j1.ld]; exact hxn), hv]
        have c3 : W.cell? ⟨bx, 0, none⟩ = some (.int .u32 (under : Nat)) := by rw [cell_of j4]; rfl
        have f2 : W.frozen? ⟨bd, x, none⟩ = false := free_of j1.down
        have hx2 : (x : Int) < (n : Int) := by omega
        have hW2 : ∀ W2, W2 = (W.setCell ⟨bd, x, none⟩ (.int .u32 (bits .or .u32 (v : Int) (under : Int)))).drew → 
            (OrdMem W2 b bu bd n up1 (orAt down under (pre ++ [x])) ∧ W2.heap[w.heap.size]? = some (.cells #[Value.pointer (some ⟨b, 0, none⟩)] 170) ∧ W2.heap[bx]? = some (.cells #[.int .u32 (under : Nat)] 229) ∧ W2.heap[D]? = some (.deferred (some [])) ∧ Kept (fun x => x ≠ bu ∧ x ≠ bd) w W2 ∧ W1.heap.size < W2.heap.size) ∧
            Kept (fun k => (k = W1.heap.size ∨ k = 0) ∨ k = (W1.alloc (Obj.cells #[Value.int IntKind.u32 ↑over] 229)).heap.size ∨ k = (W1.alloc (Obj.cells #[Value.int IntKind.u32 ↑over] 229)).heap.size + 1) W W2 := by
          rintro W2 rfl
          rw [or_u32 _ _ (by omega) (by omega)]
          refine ⟨⟨?_, (heap_setne _ (by omega)).trans j2, (heap_setne _ (by omega)).trans j4, (heap_setne _ (by omega)).trans j5, (j6.setCell (by simp) _).drew, by rw [size_drew, size_set]; exact j7⟩, ((Kept.refl _ W).setCell (by (first | omega | (simp; done) | (simp; omega))) _).drew⟩
          rw [orAt_snoc, hv]
          exact (j1.setD x (v ||| under)).drew
        have HV := Lib.hid hv; clear hv
        have HW := Lib.hid hW2; clear hW2 hDf hLp
        gi_wp2_with fail
        gi_region
        all_goals exact ⟨rfl, HW.out _ rfl⟩
      case hdone =>
        rintro D2 W2 hD2 ⟨j1, j2, j4, j5, j6, j7⟩ hK2 hz2
        simp only [World.size_alloc] at hD2
        go_wp2_with fail
        refine ⟨by simp, .inl ⟨_, _, rfl, run_takeDeferred hK2, ⟨by simp, .inl ⟨_, _, rfl, run_takeDeferred ((World.putObj_heap_other (by omega)).trans j5), ⟨_, results_tmp rfl _ _ _, rfl, ?_, ?_⟩⟩⟩⟩⟩
        · rw [HU1.out]
          exact j1.kept (((Kept.refl (fun x => x < W1.heap.size ∧ x ≠ D) W2).putObj (by omega) _).putObj (by omega) _) ⟨by omega, by omega⟩ ⟨by omega, by omega⟩ ⟨by omega, by omega⟩
        · exact (j6.putNew (by omega) _).putNew (by omega) _
end Go.Proofs.YteblahoijolegaaGreatDoor
end
