import Derived.Test.YteblahoijolegaaGreatDoorM06
section
set_option linter.all false
namespace Go.Proofs.YteblahoijolegaaGreatDoor
open Go.RowKit

theorem LatMem.setD {w : World} {l nm ord d s m jf mf lo hi} (h : LatMem w l nm ord d s m jf mf lo hi) (x : Int) : LatMem (w.setCell ⟨l, 2, none⟩ (.int .u32 x)) l nm ord x s m jf mf lo hi := by
  show _ = _
  rw [heap_set _ h, lat_set_d]
theorem LatMem.setS {w : World} {l nm ord d s m jf mf lo hi} (h : LatMem w l nm ord d s m jf mf lo hi) (x : Int) : LatMem (w.setCell ⟨l, 3, none⟩ (.int .i32 x)) l nm ord d x m jf mf lo hi := by
  show _ = _
  rw [heap_set _ h, lat_set_s]

theorem lat_tables {w : World} {l b bu bd n : Nat} {up down : List Nat} {nma : Option Addr} {cpn : Nat} {m : Int} {jf mf : Nat → Int} {lo hi : Int} (hm : OrdMem w b bu bd n up down) (hk : OrdOk n up down) (ht : DbAt w)
    (hl : LatMem w l (.slice nma n cpn) (.pointer (some ⟨b, 0, none⟩)) 0 0 m jf mf lo hi) :
    Calls Tryz.prog 153 #[.pointer (some ⟨l, 0, none⟩)] w fun e w' => e = .returned (.tuple #[]) ∧ ∃ jf' mf', LatMem w' l (.slice nma n cpn) (.pointer (some ⟨b, 0, none⟩)) 1 0 m jf' mf' (lastOf (fullS up n) lo n) (lastOf (fullS down n) hi n) ∧ DoneJ n jf' (joinS up) n 0 ∧ DoneJ n mf' (meetS up down) n 0 ∧ Kept (fun k => k ≠ l) w w' := by
  have hlt : l < w.heap.size := (Array.getElem?_eq_some_iff.1 hl).1
  have hb0 : Below w.heap.size w (w.alloc (.cells #[.pointer (some ⟨l, 0, none⟩)] 64)) := (Below.refl _ w).alloc (Nat.le_refl _) _
  have hl1 := (hl.below hb0).setS 1
  have hk1 : Kept (fun k => k ≠ l) w ((w.alloc (.cells #[.pointer (some ⟨l, 0, none⟩)] 64)).setCell ⟨l, 3, none⟩ (.int .i32 1)) := ((Kept.refl _ w).alloc _).setCell (by simp) _
  have n1 : b ≠ l := by rintro rfl; have := hm.blk.symm.trans hl; simp at this
  have n2 : bu ≠ l := by rintro rfl; have := hm.up.symm.trans hl; simp at this
  have n3 : bd ≠ l := by rintro rfl; have := hm.down.symm.trans hl; simp at this
  have n5 : (0 : Nat) ≠ l := by
    intro e
    subst e
    have h1 := ht 0 (by omega)
    rw [hl.get 0 (by omega)] at h1
    simp [latCell] at h1
  have hbb : ((w.alloc (.cells #[.pointer (some ⟨l, 0, none⟩)] 64)).setCell ⟨l, 3, none⟩ (.int .i32 1)).heap[w.heap.size]? = some (.cells #[.pointer (some ⟨l, 0, none⟩)] 64) := (heap_setne _ (by omega)).trans (heap_new w _)
  have hT := tables1 (hm.kept hk1 n1 n2 n3) hk (ht.kept hk1 n5) hbb hl1
  have hd := do_first l 2 192 #[.pointer (some ⟨w.heap.size, 0, none⟩)] (enters_of Tryz.func192 (by kernel_rfl) rfl) _ (w.alloc (.cells #[.pointer (some ⟨l, 0, none⟩)] 64))
    ((hl.below hb0).get 2 (by omega)) ((hl.below hb0).get 3 (by omega)) (free_of (hl.below hb0)) hT
    (fun W ⟨jf', mf', h, _⟩ => ⟨h.get 2 (by omega), h.get 3 (by omega), free_of h, free_of h⟩)
  have HD := Lib.hid hd; clear hd
  clear hT hbb hk1 hl1
  go_enter Tryz.func153, Tryz.ntmps153
  go_wp2_with fail
  refine HD.out.mono ?_
  rintro e w1 ⟨rfl, W, ⟨jf', mf', h1, h2, h3, h4⟩, rfl⟩
  have HH := Lib.hid h1; clear h1
  have H2 := Lib.hid h2; clear h2
  have H3 := Lib.hid h3; clear h3
  go_wp2_with fail
  go_end0
  exact ⟨rfl, jf', mf', ((show LatMem W.drew _ _ _ _ _ _ _ _ _ _ from HH.out).setD 1).setS 0, H2.out, H3.out, ((((((Kept.refl _ w).alloc _).setCell (by simp) _).trans h4).drew).setCell (by simp) _).setCell (by simp) _⟩

def wholeB (up down : List Nat) (n : Nat) : Bool := decide (∀ a, a < n → ∀ c, c < n → 0 ≤ joinS up a c ∧ 0 ≤ meetS up down a c)
set_option maxHeartbeats 1000000 in
theorem lat_whole {w : World} {l b bu bd n : Nat} {up down : List Nat} {nma : Option Addr} {cpn : Nat} {m : Int} {jf mf : Nat → Int} {lo hi : Int} (hm : OrdMem w b bu bd n up down) (hk : OrdOk n up down) (ht : DbAt w)
    (hl : LatMem w l (.slice nma n cpn) (.pointer (some ⟨b, 0, none⟩)) 0 0 m jf mf lo hi) :
    Calls Tryz.prog 91 #[.pointer (some ⟨l, 0, none⟩)] w fun e w' => e = .returned (.bool (wholeB up down n)) ∧ ∃ jf' mf', LatMem w' l (.slice nma n cpn) (.pointer (some ⟨b, 0, none⟩)) 1 0 m jf' mf' (lastOf (fullS up n) lo n) (lastOf (fullS down n) hi n) ∧ DoneJ n jf' (joinS up) n 0 ∧ DoneJ n mf' (meetS up down) n 0 ∧ Kept (fun k => k ≠ l) w w' := by
  have hn := hk.small
  go_enter Tryz.func91, Tryz.ntmps91
  go_wp2_with fail
  refine (lat_tables hm hk ht hl).mono ?_
  rintro e w1 ⟨rfl, jf', mf', h1, h2, h3, h4⟩
  have l0 := h1.get 0 (by omega)
  simp only [latCell, if_true] at l0
  have HR := Lib.hid (show ∃ jf' mf', LatMem w1 l (.slice nma n cpn) (.pointer (some ⟨b, 0, none⟩)) 1 0 m jf' mf' (lastOf (fullS up n) lo n) (lastOf (fullS down n) hi n) ∧ DoneJ n jf' (joinS up) n 0 ∧ DoneJ n mf' (meetS up down) n 0 ∧ Kept (fun k => k ≠ l) w w1 from ⟨jf', mf', h1, h2, h3, h4⟩)
  have HJ := Lib.hid (show ∀ a c, a < n → c < n → w1.cell? ⟨l, 5 + a * 10 + c, none⟩ = some (.int .i64 (joinS up a c)) from fun a c ha hc => by rw [h1.getj a c (by omega) (by omega), h2 a c hc (.inl ha)])
  have HM := Lib.hid (show ∀ a c, a < n → c < n → w1.cell? ⟨l, 105 + a * 10 + c, none⟩ = some (.int .i64 (meetS up down a c)) from fun a c ha hc => by rw [h1.getm a c (by omega) (by omega), h3 a c hc (.inl ha)])
  clear h1 h2 h3 h4 hm hk ht hl
  go_wp2_with fail
  go_loopg [12] n (fun r s12 wr => ∃ a : Nat, a ≤ n ∧ r = n - a ∧ s12 = .int .i64 a ∧ w1 = wr ∧ ∀ a' c, a' < a → c < n → 0 ≤ joinS up a' c ∧ 0 ≤ meetS up down a' c)
  case atStart => exact ⟨0, by omega, rfl, rfl, rfl, fun _ _ h => by omega⟩
  case round =>
    obtain ⟨a, ha, rfl, rfl, rfl, hq⟩ := hrel
    have HQ := Lib.hid hq; clear hq
    by_cases hlt : a < n
    · have hlt2 : (a : Int) < n := by omega
      have ha10 : (a : Int) < 10 := by omega
      go_wp2_with fail
      go_loopg [20] n (fun r s20 wr => ∃ c : Nat, c ≤ n ∧ r = n - c ∧ s20 = .int .i64 c ∧ w1 = wr ∧ ∀ c', c' < c → 0 ≤ joinS up a c' ∧ 0 ≤ meetS up down a c')
      case atStart => exact ⟨0, by omega, rfl, rfl, rfl, fun _ h => by omega⟩
      case round =>
        obtain ⟨c, hc, rfl, rfl, rfl, hq⟩ := hrel
        have HQ2 := Lib.hid hq; clear hq
        by_cases hlt : c < n
        · have hlt2 : (c : Int) < n := by omega
          have hc10 : (c : Int) < 10 := by omega
          have q1 := HJ.out a c (by omega) hlt
          have q2 := HM.out a c (by omega) hlt
          have HJS : ∃ j, j = joinS up a c := ⟨_, rfl⟩
          obtain ⟨j, hj⟩ := HJS
          rw [← hj] at q1
          have HMS : ∃ j, j = meetS up down a c := ⟨_, rfl⟩
          obtain ⟨k, hk⟩ := HMS
          rw [← hk] at q2
          have HJE := Lib.hid hj; clear hj
          have HKE := Lib.hid hk; clear hk
          by_cases g1 : j < 0
          · go_wp2
            go_ret
            have hx : wholeB up down n = false := by
              rw [wholeB, decide_eq_false_iff_not]
              intro h
              have := (h a (by omega) c hlt).1
              have := HJE.out
              omega
            rw [hx]
            exact ⟨rfl, HR.out⟩
          · by_cases g2 : k < 0
            · go_wp2
              go_ret
              have hx : wholeB up down n = false := by
                rw [wholeB, decide_eq_false_iff_not]
                intro h
                have := (h a (by omega) c hlt).2
                have := HKE.out
                omega
              rw [hx]
              exact ⟨rfl, HR.out⟩
            · go_wp2
              go_roundg (n - (c + 1))
              case measure => omega
              case rel =>
                refine ⟨c + 1, by omega, rfl, by go_num, rfl, fun c' hc' => ?_⟩
                have := HJE.out
                have := HKE.out
                by_cases e : c' = c
                · subst e; omega
                · exact HQ2.out c' (by omega)
        · obtain rfl : n = c := by omega
          have hlt3 : ¬ (n : Int) < n := by omega
          go_wp2_with fail
          go_roundg (n - (a + 1))
          case measure => omega
          case rel =>
            refine ⟨a + 1, by omega, rfl, rfl, rfl, fun a' c' ha' hc' => ?_⟩
            by_cases e : a' = a
            · subst e; exact HQ2.out c' hc'
            · exact HQ.out a' c' (by omega) hc'
    · obtain rfl : n = a := by omega
      have hlt3 : ¬ (n : Int) < n := by omega
      go_wp2_with fail
      go_ret
      have hx : wholeB up down n = true := by
        rw [wholeB, decide_eq_true_eq]
        exact fun a ha c hc => HQ.out a c ha hc
      rw [hx]
      exact ⟨rfl, HR.out⟩

/-- a finished lattice -/
structure LatAt (w : World) (l b bu bd n : Nat) (up down : List Nat) (hi : Int) : Prop where
  ord : OrdMem w b bu bd n up down
  blk : ∃ nma cpn jf mf lo, LatMem w l (.slice nma n cpn) (.pointer (some ⟨b, 0, none⟩)) 1 0 0 jf mf lo hi ∧ DoneJ n jf (joinS up) n 0
theorem lat_Many {w : World} {l b bu bd n : Nat} {up down : List Nat} {hi : Int} (h : LatAt w l b bu bd n up down hi) :
    Calls Tryz.prog 183 #[.pointer (some ⟨l, 0, none⟩)] w fun e w' => e = .returned (.int .i64 n) ∧ w = w' := by
  obtain ⟨nma, cpn, jf, mf, lo, h1, h2⟩ := h.blk
  have l0 := h1.get 0 (by omega)
  simp only [latCell, if_true] at l0
  clear h1 h2
  go_enter Tryz.func183, Tryz.ntmps183
  go_wp2
  go_ret
  exact ⟨rfl, rfl⟩
theorem lat_is {w : World} {l b bu bd n : Nat} {up down : List Nat} {hi : Int} (h : LatAt w l b bu bd n up down hi) (a : Int) :
    Calls Tryz.prog 130 #[.pointer (some ⟨l, 0, none⟩), .int .i64 a] w fun e w' => e = .returned (.bool (decide (0 ≤ a ∧ a < n))) ∧ w = w' := by
  by_cases h0 : 0 ≤ a
  · go_enter Tryz.func130, Tryz.ntmps130
    go_wp2_with (go_at_call 183; refine (lat_Many h).mono ?_; rintro e w' ⟨rfl, rfl⟩)
    go_ret
    exact ⟨by simp [h0], rfl⟩
  · go_enter Tryz.func130, Tryz.ntmps130
    go_wp2
    go_ret
    exact ⟨by simp; omega, rfl⟩
theorem lat_Leq {w : World} {l b bu bd n : Nat} {up down : List Nat} {hi : Int} (h : LatAt w l b bu bd n up down hi) (hk : OrdOk n up down) (a c : Int) :
    Calls Tryz.prog 63 #[.pointer (some ⟨l, 0, none⟩), .int .i64 a, .int .i64 c] w fun e w' => e = .returned (.bool (leqO up a c)) ∧ w = w' := by
  obtain ⟨nma, cpn, jf, mf, lo, h1, h2⟩ := h.blk
  have hlu := h.ord.lu
  have l1 := h1.get 1 (by omega)
  simp only [latCell, if_true, Nat.one_ne_zero, if_false] at l1
  clear h1 h2
  have hv : leqO up a c = (decide (0 ≤ a ∧ a < n) && (decide (0 ≤ c ∧ c < n) && leqO up a c)) := by
    unfold leqO
    rw [hlu]
    cases decide (0 ≤ a ∧ a < (n : Int)) <;> cases decide (0 ≤ c ∧ c < (n : Int)) <;> simp
  have HV := Lib.hid hv; clear hv
  cases e0 : decide (0 ≤ a ∧ a < n)
  · have H0 := Lib.hid e0; clear e0
    go_enter Tryz.func63, Tryz.ntmps63
    go_wp2_with fail
    refine (lat_is h _).mono ?_; rintro e w' ⟨rfl, rfl⟩
    rw [H0.out]
    go_wp2
    go_ret
    exact ⟨by rw [HV.out, H0.out]; rfl, rfl⟩
  · have H0 := Lib.hid e0; clear e0
    cases e1 : decide (0 ≤ c ∧ c < n)
    · have H1 := Lib.hid e1; clear e1
      go_enter Tryz.func63, Tryz.ntmps63
      go_wp2_with fail
      refine (lat_is h _).mono ?_; rintro e w' ⟨rfl, rfl⟩
      rw [H0.out]
      go_wp2_with fail
      refine (lat_is h _).mono ?_; rintro e w' ⟨rfl, rfl⟩
      rw [H1.out]
      go_wp2
      go_ret
      exact ⟨by rw [HV.out, H0.out, H1.out]; rfl, rfl⟩
    · have H1 := Lib.hid e1; clear e1
      go_enter Tryz.func63, Tryz.ntmps63
      go_wp2_with fail
      refine (lat_is h _).mono ?_; rintro e w' ⟨rfl, rfl⟩
      rw [H0.out]
      go_wp2_with fail
      refine (lat_is h _).mono ?_; rintro e w' ⟨rfl, rfl⟩
      rw [H1.out]
      go_wp2_with fail
      refine (order_AtMost (h.ord.at hk) _ _).mono ?_; rintro e w' ⟨rfl, rfl⟩
      go_wp2
      go_ret
      exact ⟨rfl, rfl⟩
theorem lat_High {w : World} {l b bu bd n : Nat} {up down : List Nat} {hi : Int} (h : LatAt w l b bu bd n up down hi) :
    Calls Tryz.prog 139 #[.pointer (some ⟨l, 0, none⟩)] w fun e w' => e = .returned (.int .i64 hi) ∧ w = w' := by
  obtain ⟨nma, cpn, jf, mf, lo, h1, h2⟩ := h.blk
  have l0 := h1.get 206 (by omega)
  clear h1 h2
  go_enter Tryz.func139, Tryz.ntmps139
  go_wp2
  go_ret
  exact ⟨rfl, rfl⟩
def latJoin (up : List Nat) (n : Nat) (hi a c : Int) : Int := if 0 ≤ a ∧ a < n ∧ 0 ≤ c ∧ c < n then joinS up a.toNat c.toNat else hi
theorem lat_Join {w : World} {l b bu bd n : Nat} {up down : List Nat} {hi : Int} (h : LatAt w l b bu bd n up down hi) (hn : n ≤ 10) (a c : Int) :
    Calls Tryz.prog 75 #[.pointer (some ⟨l, 0, none⟩), .int .i64 a, .int .i64 c] w fun e w' => e = .returned (.int .i64 (latJoin up n hi a c)) ∧ w = w' := by
  cases e0 : decide (0 ≤ a ∧ a < n)
  · have H0 := Lib.hid e0; clear e0
    go_enter Tryz.func75, Tryz.ntmps75
    go_wp2_with fail
    refine (lat_is h _).mono ?_; rintro e w' ⟨rfl, rfl⟩
    rw [H0.out]
    go_wp2_with fail
    refine (lat_High h).mono ?_; rintro e w' ⟨rfl, rfl⟩
    go_wp2
    go_ret
    have := of_decide_eq_false H0.out
    exact ⟨by rw [latJoin, if_neg (by omega)]; rfl, rfl⟩
  · have H0 := Lib.hid e0; clear e0
    cases e1 : decide (0 ≤ c ∧ c < n)
    · have H1 := Lib.hid e1; clear e1
      go_enter Tryz.func75, Tryz.ntmps75
      go_wp2_with fail
      refine (lat_is h _).mono ?_; rintro e w' ⟨rfl, rfl⟩
      rw [H0.out]
      go_wp2_with fail
      refine (lat_is h _).mono ?_; rintro e w' ⟨rfl, rfl⟩
      rw [H1.out]
      go_wp2_with fail
      refine (lat_High h).mono ?_; rintro e w' ⟨rfl, rfl⟩
      go_wp2
      go_ret
      have := of_decide_eq_false H1.out
      exact ⟨by rw [latJoin, if_neg (by omega)]; rfl, rfl⟩
    · have ha := of_decide_eq_true H0.out
      have hc := of_decide_eq_true e1
      obtain ⟨a, rfl⟩ := Int.eq_ofNat_of_zero_le ha.1
      obtain ⟨c, rfl⟩ := Int.eq_ofNat_of_zero_le hc.1
      have ha2 : a < n := by omega
      have hc2 : c < n := by omega
      have ha10 : (a : Int) < 10 := by omega
      have hc10 : (c : Int) < 10 := by omega
      obtain ⟨nma, cpn, jf, mf, lo, h1, h2⟩ := h.blk
      have q := h1.getj a c (by omega) (by omega)
      rw [h2 a c hc2 (.inl ha2)] at q
      have H1 := Lib.hid e1; clear e1
      clear h1 h2 ha hc
      go_enter Tryz.func75, Tryz.ntmps75
      go_wp2_with fail
      refine (lat_is h _).mono ?_; rintro e w' ⟨rfl, rfl⟩
      rw [H0.out]
      go_wp2_with fail
      refine (lat_is h _).mono ?_; rintro e w' ⟨rfl, rfl⟩
      rw [H1.out]
      go_wp2
      go_ret
      exact ⟨by rw [latJoin, if_pos (by omega)]; rfl, rfl⟩
end Go.Proofs.YteblahoijolegaaGreatDoor
end
