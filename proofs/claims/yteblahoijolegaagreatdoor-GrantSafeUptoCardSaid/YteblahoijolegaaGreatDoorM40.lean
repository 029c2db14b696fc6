import Derived.Test.YteblahoijolegaaGreatDoorM37
import Derived.Test.YteblahoijolegaaGreatDoorM36
import Derived.Test.YteblahoijolegaaGreatDoorM35
section
set_option linter.all false
namespace Go.Proofs.YteblahoijolegaaGreatDoor
open Go.RowKit

theorem may_fine {P : Pol} (h1 : 1 ≤ P.nl) (h3 : 1 ≤ P.nw) (wk x y : Int) : mayE P.nl P.nw (bringI wk P.nw) (bringI x P.nl) (bringI y P.nl) = 0 := by
  unfold mayE
  rw [bringI_range h3, bringI_range h1, bringI_range h1]; rfl
theorem lowT_A {P : Pol} {up : List Nat} {wk x y : Int} {p : ByteArray} (hm : mayE P.nl P.nw wk x y = 0) (hq : sLeq P.nl up x y = true) : lowT P up wk p x y = (x, ⟨#[]⟩, 0) := by
  rw [lowT, if_neg (by simpa using hm), if_pos hq]
theorem lowT_B {P : Pol} {up : List Nat} {wk x y : Int} {p : ByteArray} (hm : mayE P.nl P.nw wk x y = 0) (hq : sLeq P.nl up x y = false) (hf : fitIx P up wk p x y P.ng = []) : lowT P up wk p x y = (0, ⟨#[]⟩, 160) := by
  rw [lowT, if_neg (by simpa using hm), if_neg (by rw [hq]; simp), hf]
theorem lowT_C {P : Pol} {up : List Nat} {wk x y : Int} {p : ByteArray} {i : Nat} {r : List Nat} (hm : mayE P.nl P.nw wk x y = 0) (hq : sLeq P.nl up x y = false) (hf : fitIx P up wk p x y P.ng = i :: r) : lowT P up wk p x y = ((P.grt i).2.2.2.1, (P.grt i).1, 0) := by
  rw [lowT, if_neg (by simpa using hm), if_neg (by rw [hq]; simp), hf]
/-- five stores into a question -/
def setAsk (w : World) (X : Nat) (wk x y : Int) (p n : ByteArray) : World := ((((w.setCell ⟨X, 0, none⟩ (.int .i64 wk)).setCell ⟨X, 1, none⟩ (.int .i64 x)).setCell ⟨X, 2, none⟩ (.int .i64 y)).setCell ⟨X, 3, none⟩ (.string p)).setCell ⟨X, 4, none⟩ (.string n)
theorem setAsk_heap {w : World} {X : Nat} {a b c : Int} {s t : ByteArray} {ty : TypeId} (h : w.heap[X]? = some (.cells #[.int .i64 a, .int .i64 b, .int .i64 c, .string s, .string t] ty)) (wk x y : Int) (p n : ByteArray) :
    (setAsk w X wk x y p n).heap[X]? = some (.cells #[.int .i64 wk, .int .i64 x, .int .i64 y, .string p, .string n] ty) :=
  heap_set (o := 4) _ (heap_set (o := 3) _ (heap_set (o := 2) _ (heap_set (o := 1) _ (heap_set (o := 0) _ h))))
theorem setAsk_kept (w : World) (X : Nat) (wk x y : Int) (p n : ByteArray) : Kept (fun k => k ≠ X) w (setAsk w X wk x y p n) :=
  (((((Kept.refl _ w).setCell (by simp) _).setCell (by simp) _).setCell (by simp) _).setCell (by simp) _).setCell (by simp) _
theorem setAsk_below {B : Nat} {w w0 : World} {X : Nat} (h : Below B w0 w) (hX : B ≤ X) (wk x y : Int) (p n : ByteArray) : Below B w0 (setAsk w X wk x y p n) :=
  ((((h.setCell hX _).setCell hX _).setCell hX _).setCell hX _).setCell hX _
set_option maxHeartbeats 8000000 in
set_option maxRecDepth 20000 in
theorem law_Safe {w : World} {q : PolPtr} {P : Pol} (h : PolAt w q P) (hz : P.Sized) (hg : GlAt w) (wk x y : Int) (p n : ByteArray) (hp : p.size ≤ 1048576) :
    Calls Tryz.prog 4 #[.agg (polCells q P), askV wk x y p n] w fun e w' => e = .returned (.bool true) ∧ Below w.heap.size w w' := by
  obtain ⟨w0, hw0⟩ : ∃ w0 : World, w0 = (w.alloc (.cells (polCells q P) 30)).alloc (.cells #[.int .i64 wk, .int .i64 x, .int .i64 y, .string p, .string n] 41) := ⟨_, rfl⟩
  have hb0 : Below w.heap.size w w0 := by rw [hw0]; (repeat first | exact Below.refl _ _ | assumption | refine Below.alloc ?_ (by simp; try omega) _ | refine Below.drew ?_ | refine Below.drewN ?_ _ | refine Below.setCell ?_ (by simp; try omega) _ | refine Below.trans ?_ (Below.mono (by assumption) (by simp; try omega)))
  have hs0 : w0.heap.size = w.heap.size + 2 := by rw [hw0]; simp
  have g1 : w0.heap[w.heap.size]? = some (.cells (polCells q P) 30) := by rw [hw0]; (simp only [heap_drew, heap_allocs, World.size_alloc, if_true] <;> repeat (first | rw [if_pos (by omega)] | rw [if_neg (by omega)]))
  have g2 : w0.heap[w.heap.size + 1]? = some (.cells #[.int .i64 wk, .int .i64 x, .int .i64 y, .string p, .string n] 41) := by rw [hw0]; (simp only [heap_drew, heap_allocs, World.size_alloc, if_true] <;> repeat (first | rw [if_pos (by omega)] | rw [if_neg (by omega)]))
  have HW := Lib.hid hw0; have HB0 := Lib.hid hb0; have HS0 := Lib.hid hs0; have G1 := Lib.hid g1; have G2 := Lib.hid g2
  have HH := Lib.hid h; have HZ := Lib.hid hz; have HG := Lib.hid hg
  have HWk := Lib.hid (law_works w0 (hg.below hb0))
  clear hw0 hb0 hs0 g1 g2 h hz hg
  simp only [polCells, askV] at HW ⊢
  go_enter Tryz.func4, Tryz.ntmps4
  go_wp2_with fail
  rw [← HW.out]
  refine HWk.out.mono ?_
  rintro e wa ⟨rfl, hba⟩
  have HBa := Lib.hid (HB0.out.trans (hba.mono HB0.out.size))
  have ga := (hba.block _ (Array.getElem?_eq_some_iff.1 G1.out).1).trans G1.out
  have GA2 := Lib.hid ((hba.block _ (Array.getElem?_eq_some_iff.1 G2.out).1).trans G2.out)
  have HSa := Lib.hid (show w.heap.size + 2 ≤ wa.heap.size by have := hba.size; have := HS0.out; omega)
  have c0 := cell_of (o := 0) ga; have c1 := cell_of (o := 1) ga; have c2 := cell_of (o := 2) ga; have c3 := cell_of (o := 3) ga; have c4 := cell_of (o := 4) ga; have c5 := cell_of (o := 5) ga; have c6 := cell_of (o := 6) ga; have c7 := cell_of (o := 7) ga; have c8 := cell_of (o := 8) ga
  have GA := Lib.hid ga
  have hof := snap_Of (HH.out.below HBa.out) HZ.out (HG.out.below HBa.out)
  simp only [polCells] at hof c0 c1 c2 c3 c4 c5 c6 c7 c8
  have HOf := Lib.hid hof
  clear hba ga hof
  go_wp2_with fail
  refine HOf.out.mono ?_
  rintro e wb ⟨hcase, hbb⟩
  have HBb := Lib.hid (HBa.out.trans (hbb.mono HBa.out.size))
  have gb := (hbb.block _ (Array.getElem?_eq_some_iff.1 GA.out).1).trans GA.out
  have GB2 := Lib.hid ((hbb.block _ (Array.getElem?_eq_some_iff.1 GA2.out).1).trans GA2.out)
  have HSb := Lib.hid (show w.heap.size + 2 ≤ wb.heap.size by have := hbb.size; have := HSa.out; omega)
  clear c0 c1 c2 c3 c4 c5 c6 c7 c8
  have c0 := cell_of (o := 0) gb; have c1 := cell_of (o := 1) gb; have c2 := cell_of (o := 2) gb; have c3 := cell_of (o := 3) gb; have c4 := cell_of (o := 4) gb; have c5 := cell_of (o := 5) gb; have c6 := cell_of (o := 6) gb; have c7 := cell_of (o := 7) gb; have c8 := cell_of (o := 8) gb
  have GB := Lib.hid gb
  have hck := policy_Check (HH.out.below HBb.out) HZ.out (HG.out.below HBb.out).db
  simp only [polCells] at hck c0 c1 c2 c3 c4 c5 c6 c7 c8
  have HCk := Lib.hid hck
  clear hbb gb hck
  rcases hcase with ⟨hc, rfl⟩ | ⟨hc, s, q2, l, b, bu, bd, down, hi, rfl, hsn, htb, hfq, hsB⟩
  · have hc2 : (P.code == 0) = false := by simpa using hc
    have hc3 : (P.code == P.code) = true := by simp
    clear hc
    generalize P.code = cd at HCk hc2 hc3
    go_wp2_with fail
    refine HCk.out.mono ?_
    rintro e wc ⟨rfl, hbc⟩
    have hbz := HBb.out.trans (hbc.mono HBb.out.size)
    go_wp2_with fail
    go_ret
    exact ⟨by simp, hbz⟩
  · have HC := Lib.hid hc
    rw [hc] at HCk
    clear hc
    by_cases hn0 : P.nw = 0
    · have hn1 : ((P.nw : Int) == 0) = true := by simp [hn0]
      clear hn0 hsn htb hfq hsB
      go_wp2_with fail
      refine HCk.out.mono ?_
      rintro e wc ⟨rfl, hbc⟩
      have hbz := HBb.out.trans (hbc.mono HBb.out.size)
      go_wp2_with fail
      go_ret
      exact ⟨rfl, hbz⟩
    · have hn1 : ((P.nw : Int) == 0) = false := by simpa using hn0
      have HN := Lib.hid (show 1 ≤ P.nw by omega)
      have hgd := Pol.good HC.out
      have HGd := Lib.hid hgd
      have HNl := Lib.hid (show 1 ≤ P.nl ∧ P.nl ≤ 10 by obtain ⟨_, _, _, _, h1, h2⟩ := hgd.tab; exact ⟨h1, h2⟩)
      have HSn := Lib.hid hsn; have HTb := Lib.hid htb; have HFq := Lib.hid hfq; have HSB := Lib.hid hsB
      clear hn0 hsn htb hfq hsB HCk hgd
      have t0 := cell_of (o := 0) GB2.out; have t1 := cell_of (o := 1) GB2.out; have t2 := cell_of (o := 2) GB2.out; have t3 := cell_of (o := 3) GB2.out; have t4 := cell_of (o := 4) GB2.out
      have hfi := law_fine q P HNl.out.1 HNl.out.2 HN.out (P.small HGd.out.lim).nw wk x y p n hp wb
      simp only [polCells, askV] at hfi
      have HFi := Lib.hid hfi; clear hfi
      have hmay := may_fine HNl.out.1 HN.out wk x y
      have HLc := Lib.hid (show labB P.nl (bringI x P.nl) = true from bringI_range HNl.out.1)
      generalize bringI wk P.nw = W at HFi hmay
      generalize bringI x P.nl = L at HFi hmay HLc
      generalize bringI y P.nl = C at HFi hmay
      generalize cut70 p = pp at HFi
      have HMay := Lib.hid hmay; clear hmay
      go_wp2_with fail
      refine HFi.out.mono ?_
      rintro e wc ⟨rfl, hbc⟩
      have gc2 := (hbc.block _ (Array.getElem?_eq_some_iff.1 GB2.out).1).trans GB2.out
      obtain ⟨wd, hwd⟩ : ∃ wd : World, wd = setAsk wc (w.heap.size + 1) W L C pp n := ⟨_, rfl⟩
      have hBc := HBb.out.trans (hbc.mono HBb.out.size)
      have gd2 := setAsk_heap gc2 W L C pp n
      have hkd := setAsk_kept wc (w.heap.size + 1) W L C pp n
      have hBd := setAsk_below hBc (show w.heap.size ≤ w.heap.size + 1 by omega) W L C pp n
      rw [← hwd] at gd2 hkd hBd
      have gd1 : wd.heap[w.heap.size]? = _ := (hkd.block _ (by have := hbc.size; have := HSb.out; omega) (by omega)).trans ((hbc.block _ (Array.getElem?_eq_some_iff.1 GB.out).1).trans GB.out)
      have hsd : SnapAt wd s q2 P l b bu bd P.up down hi := (HSn.out.below hbc).ask (HFq.out.mono HSa.out) (by have := HSB.out; have := HSa.out; omega) gc2 hkd
      have HSD := Lib.hid hsd; have GD1 := Lib.hid gd1; have GD2 := Lib.hid gd2; have HBD := Lib.hid hBd
      have HWD := Lib.hid hwd
      have u0 := cell_of (o := 0) gc2; have u1 := cell_of (o := 1) gc2; have u2 := cell_of (o := 2) gc2; have u3 := cell_of (o := 3) gc2; have u4 := cell_of (o := 4) gc2
      have u5 : ∀ k, wc.frozen? ⟨w.heap.size + 1, k, none⟩ = false := fun k => free_of gc2
      have v0 := cell_of (o := 0) gd2; have v1 := cell_of (o := 1) gd2; have v2 := cell_of (o := 2) gd2; have v3 := cell_of (o := 3) gd2
      simp only [setAsk] at HWD
      clear hsd gd1 gd2 hBd hwd gc2 hBc hkd hbc t0 t1 t2 t3 t4 c0 c1 c2 c3 c4 c5 c6 c7 c8
      go_upto_region 7 with fail
      rw [← HWD.out]
      go_region_held3 (fun w' => w'.cell? ⟨w.heap.size + 1, 1, none⟩ = some (.int .i64 L) ∧ w'.cell? ⟨w.heap.size + 1, 2, none⟩ = some (.int .i64 C)) (exact ⟨v1, v2⟩) (fail)
      all_goals
        have HLo := Lib.hid (grant_Lower (w := wd.drew) (HSD.out.below (Below.refl _ _).drew) W pp L C)
        have HBD2 := Lib.hid (HBD.out.drew)
        go_wp2_with fail
        refine HLo.out.mono ?_
        rintro e we ⟨rfl, hbe⟩
        rw [lowV_eq]
        have hse : SnapAt we s q2 P l b bu bd P.up down hi := HSD.out.below ((Below.refl _ wd).drew.trans hbe)
        have hbwe : Below w.heap.size w we := HBD2.out.trans (hbe.mono HBD2.out.size)
        have ge2 := (hbe.block _ (Array.getElem?_eq_some_iff.1 GD2.out).1).trans GD2.out
        have ge1 := (hbe.block _ (Array.getElem?_eq_some_iff.1 GD1.out).1).trans GD1.out
        have HSE := Lib.hid hse; have HBE := Lib.hid hbwe; have GE1 := Lib.hid ge1; have GE2 := Lib.hid ge2
        clear hse hbwe ge2 ge1 hbe
        obtain ⟨wf, hwf⟩ : ∃ wf : World, wf = we.alloc (.cells #[.int .i64 (lowT P P.up W pp L C).1, .string (lowT P P.up W pp L C).2.1] 48) := ⟨_, rfl⟩
        have hbf : Below we.heap.size we wf := by rw [hwf]; (repeat first | exact Below.refl _ _ | assumption | refine Below.alloc ?_ (by simp; try omega) _ | refine Below.drew ?_ | refine Below.drewN ?_ _ | refine Below.setCell ?_ (by simp; try omega) _ | refine Below.trans ?_ (Below.mono (by assumption) (by simp; try omega)))
        have gf : wf.heap[we.heap.size]? = some (.cells #[.int .i64 (lowT P P.up W pp L C).1, .string (lowT P P.up W pp L C).2.1] 48) := by rw [hwf]; exact heap_new we _
        have HBF := Lib.hid (HBE.out.trans (hbf.mono HBE.out.size))
        have HSF := Lib.hid (HSE.out.below hbf)
        have GF1 := Lib.hid ((hbf.block _ (Array.getElem?_eq_some_iff.1 GE1.out).1).trans GE1.out)
        have GF2 := Lib.hid ((hbf.block _ (Array.getElem?_eq_some_iff.1 GE2.out).1).trans GE2.out)
        have HWF := Lib.hid hwf
        cases hq : sLeq P.nl P.up L C
        · cases hF : fitIx P P.up W pp L C P.ng with
          | nil =>
            have hT := lowT_B (up := P.up) (p := pp) HMay.out hq hF
            rw [hT] at gf hwf HWF ⊢
            have HQ := Lib.hid hq
            have hl1 := snap_Leq HSF.out L C
            rw [hq] at hl1
            have HL1 := Lib.hid hl1
            have f0 := cell_of (o := 0) gf; have f1 := cell_of (o := 1) gf
            have heq := fun w => run_eq_leave 9998 0 0 ⟨#[]⟩ ⟨#[]⟩ w
            clear hT hq gf hwf hbf v0 v1 v2 v3 hl1 hF
            go_wp2_with fail
            rw [← HWF.out]
            refine HL1.out.mono ?_
            rintro e wg ⟨rfl, rfl⟩
            go_wp2_with fail
            go_ret
            exact ⟨by simp, HBF.out⟩
          | cons i r =>
            have hT := lowT_C (up := P.up) (p := pp) HMay.out hq hF
            rw [hT] at gf hwf HWF ⊢
            have HQ := Lib.hid hq
            obtain ⟨hi1, hfit⟩ := fit_head hF
            have hff := fitsB_iff.1 hfit
            have HFf := Lib.hid hff
            have hgi := HGd.out.grt i hi1
            have HGi := Lib.hid hgi
            have hl1 := snap_Leq HSF.out (P.grt i).2.2.2.1 C
            rw [hff.2.2.2.2] at hl1
            have hl2 := snap_Leq HSF.out (P.grt i).2.2.2.1 L
            rw [hff.2.2.2.1] at hl2
            have HL1 := Lib.hid hl1; have HL2 := Lib.hid hl2
            have hne : (P.grt i).1.size ≠ 0 := by
              have h1 := hgi.1
              unfold nameB at h1
              simp only [Bool.and_eq_true, bne_iff_ne] at h1
              exact h1.1
            have hne1 : (P.grt i).1.toList.isEmpty = false := by
              rw [ByteArray.toList_eq]
              cases hl : (P.grt i).1.data.toList with
              | nil => exfalso; apply hne; show (P.grt i).1.data.size = 0; rw [← Array.length_toList, hl]; rfl
              | cons a r => rfl
            have HNe := Lib.hid hne; have HFit := Lib.hid hfit; have HI := Lib.hid hi1
            have f0 := cell_of (o := 0) gf; have f1 := cell_of (o := 1) gf
            have GF := Lib.hid gf
            clear hT hq gf hwf hbf v0 v1 v2 v3 hl1 hl2 hF hff hgi hne hfit hi1
            go_wp2_with fail
            rw [← HWF.out]
            refine HL1.out.mono ?_
            rintro e wg ⟨rfl, rfl⟩
            go_wp2_with fail
            refine HL2.out.mono ?_
            rintro e wg ⟨rfl, rfl⟩
            go_wp2_with fail
            have HHf := Lib.hid (HH.out.below HBF.out)
            clear f0 f1
            have hsm := (P.small HGd.out.lim).ng
            go_loopg [11, 12] P.ng (fun r s11 s12 wr => ∃ j : Nat, j ≤ P.ng ∧ r = P.ng - j ∧ s12 = .int .i64 j ∧ s11 = .bool (decide (i < j)) ∧ Below wf.heap.size wf wr)
            case atStart => exact ⟨0, by omega, rfl, rfl, by simp, Below.refl _ _⟩
            case round =>
              obtain ⟨j, hj, rfl, rfl, rfl, hb⟩ := hrel
              have gr1 := (hb.block _ (Array.getElem?_eq_some_iff.1 GF1.out).1).trans GF1.out
              have gr2 := (hb.block _ (Array.getElem?_eq_some_iff.1 GF2.out).1).trans GF2.out
              have gr3 := (hb.block _ (Array.getElem?_eq_some_iff.1 GF.out).1).trans GF.out
              have p7 := cell_of (o := 7) gr1
              simp only [polCells] at p7
              by_cases hlt : j < P.ng
              · obtain ⟨a, off, ha, hcs⟩ := ((HHf.out.below hb).h7.sl).resolve_left (by omega)
                rw [ha] at p7
                obtain ⟨r2, hrr⟩ : ∃ r2, P.ng - j = r2 + 1 := ⟨P.ng - j - 1, by omega⟩
                have HRR := Lib.hid hrr; clear hrr
                have hlt2 : (j : Int) < P.ng := by omega
                have d0 : wr.cell? ⟨a, off + j * 5, none⟩ = some (.string (P.grt j).1) := by have := hcs j hlt 0 (by omega); simpa [grC] using this
                have d1 : wr.cell? ⟨a, off + j * 5 + 1, none⟩ = some (.int .i64 (P.grt j).2.1) := by have := hcs j hlt 1 (by omega); simpa [grC] using this
                have d2 : wr.cell? ⟨a, off + j * 5 + 2, none⟩ = some (.int .i64 (P.grt j).2.2.1) := by have := hcs j hlt 2 (by omega); simpa [grC] using this
                have d3 : wr.cell? ⟨a, off + j * 5 + 3, none⟩ = some (.int .i64 (P.grt j).2.2.2.1) := by have := hcs j hlt 3 (by omega); simpa [grC] using this
                have d4 : wr.cell? ⟨a, off + j * 5 + 4, none⟩ = some (.string (P.grt j).2.2.2.2) := by have := hcs j hlt 4 (by omega); simpa [grC] using this
                clear hcs ha
                obtain ⟨wl, hwl⟩ : ∃ wl : World, wl = wr.alloc (.cells #[.string (P.grt j).1, .int .i64 (P.grt j).2.1, .int .i64 (P.grt j).2.2.1, .int .i64 (P.grt j).2.2.2.1, .string (P.grt j).2.2.2.2] 53) := ⟨_, rfl⟩
                have hbl : Below wr.heap.size wr wl := by rw [hwl]; (repeat first | exact Below.refl _ _ | assumption | refine Below.alloc ?_ (by simp; try omega) _ | refine Below.drew ?_ | refine Below.drewN ?_ _ | refine Below.setCell ?_ (by simp; try omega) _ | refine Below.trans ?_ (Below.mono (by assumption) (by simp; try omega)))
                have gl2 := (hbl.block _ (Array.getElem?_eq_some_iff.1 gr2).1).trans gr2
                have gl3 := (hbl.block _ (Array.getElem?_eq_some_iff.1 gr3).1).trans gr3
                have z0 := cell_of (o := 0) gl2
                have z1 := cell_of (o := 0) gl3
                have z2 := cell_of (o := 1) gl3
                rw [hwl] at z0 z1 z2
                have hbz := hb.trans (hbl.mono hb.size)
                have hSl := HSF.out.below hbz
                have HX := Lib.hid (show wl.heap[wr.heap.size]? = some (.cells #[.string (P.grt j).1, .int .i64 (P.grt j).2.1, .int .i64 (P.grt j).2.2.1, .int .i64 (P.grt j).2.2.2.1, .string (P.grt j).2.2.2.2] 53) by rw [hwl]; exact heap_new wr _)
                have HWl := Lib.hid hwl; have HBZ := Lib.hid hbz
                clear hwl hbl gl2 gl3 gr1 gr2 gr3 hb hbz
                rcases (by omega : i < j ∨ j = i ∨ j < i) with hij | hij | hij
                · have hd : decide (i < j) = true := decide_eq_true hij
                  rw [hd]
                  clear hd hSl
                  go_wp2_with fail
                  rw [← HWl.out]
                  go_roundg r2
                  case measure => have := HRR.out; omega
                  case rel => exact ⟨j + 1, by omega, by have := HRR.out; omega, by go_num, by rw [decide_eq_true (show i < j + 1 by omega)], HBZ.out⟩
                · have hd : decide (i < j) = false := decide_eq_false (by omega)
                  rw [hd]
                  subst hij
                  have e1 : ((P.grt j).1.toList == (P.grt j).1.toList) = true := by simp
                  have e2 : ((P.grt j).2.1 == W) = true := HFf.out.1
                  have e3 : ((P.grt j).2.2.2.1 == (P.grt j).2.2.2.1) = true := by simp
                  have e4 : ((P.grt j).2.2.2.1 == (P.grt j).2.2.1) = false := by
                    have := HGi.out.2.2.2.2.2.1
                    rw [beq_eq_false_iff_ne] at this ⊢
                    exact fun e => this e.symm
                  have e4' : ((P.grt j).2.2.2.1 != (P.grt j).2.2.1) = true := by rw [bne, e4]; rfl
                  have k1 := snap_Leq hSl (P.grt j).2.2.2.1 (P.grt j).2.2.1
                  have k1e : sLeq P.nl P.up (P.grt j).2.2.2.1 (P.grt j).2.2.1 = true := by
                    obtain ⟨_, _, hk, _⟩ := HGd.out.tab
                    rw [sLeq_eq hk]; exact HGi.out.2.2.2.2.2.2.1
                  rw [k1e] at k1
                  have k2 := snap_Leq hSl L (P.grt j).2.2.1
                  rw [HFf.out.2.2.1] at k2
                  have K1 := Lib.hid k1; have K2 := Lib.hid k2
                  clear hd hSl k1 k2 k1e
                  go_wp2_with fail
                  rw [← HWl.out]
                  refine K1.out.mono ?_
                  rintro e wg ⟨rfl, rfl⟩
                  have x2 := cell_of (o := 2) HX.out
                  go_wp2_with fail
                  refine K2.out.mono ?_
                  rintro e wg ⟨rfl, rfl⟩
                  go_wp2_with fail
                  go_roundg r2
                  case measure => have := HRR.out; omega
                  case rel => exact ⟨j + 1, by omega, by have := HRR.out; omega, by go_num, by rw [decide_eq_true (show j < j + 1 by omega)], HBZ.out⟩
                · have hd : decide (i < j) = false := decide_eq_false (by omega)
                  rw [hd]
                  have e1 : ((P.grt j).1.toList == (P.grt i).1.toList) = false := grt_ne HGd.out hlt HI.out (by omega)
                  clear hd hSl
                  go_wp2_with fail
                  rw [← HWl.out]
                  go_roundg r2
                  case measure => have := HRR.out; omega
                  case rel => exact ⟨j + 1, by omega, by have := HRR.out; omega, by go_num, by rw [decide_eq_false (show ¬ i < j + 1 by omega)], HBZ.out⟩
              · obtain rfl : j = P.ng := by omega
                have hd : decide (i < P.ng) = true := decide_eq_true HI.out
                rw [hd]
                have z1 := cell_of (o := 0) gr3
                have z2 := cell_of (o := 1) gr3
                have ht := grant_Told (HSF.out.below hb) (P.grt i).1 L (P.grt i).2.2.2.1
                rw [told_fits HGd.out HI.out HFit.out] at ht
                have HT := Lib.hid ht
                have HBZ := Lib.hid (HBF.out.trans (hb.mono HBF.out.size))
                clear hd ht gr1 gr2 gr3 hb
                go_wp2_with fail
                refine HT.out.mono ?_
                rintro e wg ⟨rfl, hbg⟩
                have hbz := HBZ.out.trans (hbg.mono HBZ.out.size)
                go_wp2_with fail
                go_ret
                exact ⟨by simp, hbz⟩
        · have hT := lowT_A (up := P.up) (p := pp) HMay.out hq
          rw [hT] at gf hwf HWF ⊢
          have HQ := Lib.hid hq
          have hrf : sLeq P.nl P.up L L = true := by
            obtain ⟨_, _, hk, _⟩ := HGd.out.tab
            rw [sLeq_eq hk]; exact leqO_refl hk HLc.out
          have hl1 := snap_Leq HSF.out L C
          rw [hq] at hl1
          have hl2 := snap_Leq HSF.out L L
          rw [hrf] at hl2
          have HL1 := Lib.hid hl1; have HL2 := Lib.hid hl2
          have f0 := cell_of (o := 0) gf; have f1 := cell_of (o := 1) gf
          clear hT hq gf hwf hrf hbf v0 v1 v2 v3 hl1 hl2
          go_wp2_with fail
          rw [← HWF.out]
          refine HL1.out.mono ?_
          rintro e wg ⟨rfl, rfl⟩
          go_wp2_with fail
          refine HL2.out.mono ?_
          rintro e wg ⟨rfl, rfl⟩
          go_wp2_with fail
          go_ret
          exact ⟨by simp, HBF.out⟩
end Go.Proofs.YteblahoijolegaaGreatDoor
end
