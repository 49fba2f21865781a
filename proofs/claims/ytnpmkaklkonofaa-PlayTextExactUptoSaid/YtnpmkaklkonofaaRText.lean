/- annalsref30.Text: the document's own script of steps. -/
import Derived.Test.YtnpmkaklkonofaaRowL
namespace Go.Proofs.Ytnpmkaklkonofaa.Txt
open Go.RowKit Go.Proofs.YtnpmkaklkonofaaW.PrintWords Go.Proofs.YtnpmkaklkonofaaW.PrintLast Go.Proofs.Ytnpmkaklkonofaa.Hand Go.Proofs.Ytnpmkaklkonofaa.Q

theorem textsL_mono (S : List ByteArray) : ∀ k m, k ≤ m → (textsL S k).length ≤ (textsL S m).length
  | k, 0, h => by obtain rfl : k = 0 := by omega
                  exact Nat.le_refl _
  | k, m + 1, h => by
    by_cases he : k = m + 1
    · rw [he]; exact Nat.le_refl _
    · have := textsL_mono S k m (by omega)
      rw [textsL, List.length_append]; omega

/-- The document's line, of a step of a kind that there is: the step's line. -/
theorem rline_calls (s : S52) (h1 : 1 ≤ s.f0) (h2 : s.f0 < 35) (AN AS : Option Addr) (cN cS : Nat) (w : World)
    (hN : Kd.C (Kd.int .i64) w AN s.f1.length s.f1) (hcN : s.f1.length ≤ cN) (hS : Kd.C Kd.string w AS s.f2.length s.f2) (hcS : s.f2.length ≤ cS)
    (hok : okStep s = true) (hlen : (stepLine s).length ≤ 100000000000000) :
    Calls Try.prog 31 #[.agg #[.int .i64 s.f0, .slice AN s.f1.length cN, .slice AS s.f2.length cS, .int .i64 s.f3.f0, .int .i64 s.f3.f1, .int .i64 s.f3.f2, .int .i64 s.f3.f3, .int .i64 s.f3.f4, .int .i64 s.f3.f5]] w fun e w' =>
      e = .returned (.string ⟨(stepLine s).toArray⟩) ∧ Below w.heap.size w w' := by
  obtain ⟨wd, nn, ss, mo, oo, hrow, hoo, hnn, hss, hwd, hl⟩ := row_line s.f0.toNat (by omega) (by omega)
  have hx : ((s.f0.toNat : Nat) : Int) = s.f0 := by omega
  rw [hx] at hrow
  obtain ⟨k1, k2, k3, k4, k5⟩ := okStep_spec hok
  have hline : stepLine s = lineB wd nn ss mo oo s.f1 s.f2 (optsOf s) := by
    unfold stepLine
    rw [if_pos ⟨h1, h2⟩]
    exact hl s.f1 s.f2 (optsOf s) rfl
  have hO : ∀ i, -9223372036854775808 ≤ (optsOf s).getD i 0 ∧ (optsOf s).getD i 0 ≤ 9223372036854775807 := by
    intro i
    rw [List.getD_eq_getElem?_getD]
    cases hi : (optsOf s)[i]? with
    | none => exact ⟨by decide, by decide⟩
    | some y => exact k4 y (List.mem_of_getElem? hi)
  refine (line_calls s.f0 s.f1 s.f2 s.f3.f0 s.f3.f1 s.f3.f2 s.f3.f3 s.f3.f4 s.f3.f5 AN AS cN cS w wd nn ss mo oo hrow hoo hnn hss hwd hN hcN hS hcS k3 hO k5 k1 k2 ?_).mono ?_
  · intro k hk
    have h3 := textsL_mono s.f2 k _ hk
    rw [hline, lineB, List.length_append, List.length_append] at hlen
    omega
  · rintro e w' ⟨rfl, hb⟩
    exact ⟨by rw [hline]; rfl, hb⟩

set_option maxHeartbeats 1000000 in
set_option maxRecDepth 100000 in
theorem rtext_calls (A : Option Addr) (c : Nat) (l : List S52) (w : World) (hr : Kd.C k52 w A l.length l) (hc : l.length ≤ c) (hok : ∀ s ∈ l, okStep s = true) (hlen : (textL l).length ≤ 100000000000000) :
    Calls Try.prog 10 #[.slice A l.length c] w fun e w' => e = .returned (.string ⟨(textL l).toArray⟩) ∧ Below w.heap.size w w' := by
  have HR := Lib.hid hr
  have HOK := Lib.hid hok
  have hl63 : (l.length : Int) ≤ 9223372036854775807 := by have := hr.2.1; omega
  clear hr hok
  go_enter Try.func10, Try.ntmps10
  go_wp2
  have hst : Hid (Below w.heap.size w w) := Below.refl _ _
  go_loopg [3, 4] l.length (fun gk v3 v4 wr => ∃ (i : Int) (t : ByteArray), v4 = .int .i64 i ∧ v3 = .string t ∧ 0 ≤ i ∧ i ≤ l.length ∧ gk + i.toNat = l.length ∧ Hid (t = ⟨((l.take i.toNat).flatMap stepLine).toArray⟩) ∧ Hid (Below w.heap.size w wr))
  case atStart => exact ⟨0, ⟨#[]⟩, rfl, rfl, by omega, by omega, by simp, by show _ = _; simp, hst⟩
  case round =>
    clear hst
    obtain ⟨i, t, rfl, rfl, hi0, hi1, hgk, HT, HW⟩ := hrel
    by_cases hlt : i < l.length
    · obtain ⟨gk', rfl⟩ : ∃ m, gk = m + 1 := ⟨gk - 1, by omega⟩
      obtain ⟨ad, A1, c1, A2, c2, e, h0, h1, h2, h3, h4, h5, h6, h7, h8, l1, g1, l2, g2⟩ := at_T52 (Kd.C_below HR.out HW.out) i hi0 hlt
      subst e
      have hmem : rd_T52 l i ∈ l := by
        unfold rd_T52
        rw [List.getD_eq_getElem?_getD, List.getElem?_eq_getElem (by omega)]
        exact List.getElem_mem _
      have hok := HOK.out _ hmem
      have hnext : l.take (i.toNat + 1) = l.take i.toNat ++ [rd_T52 l i] := by
        rw [List.take_succ_eq_append_getElem (by omega)]
        unfold rd_T52
        rw [List.getD_eq_getElem?_getD, List.getElem?_eq_getElem (by omega)]; rfl
      have hacc : (l.take (i.toNat + 1)).flatMap stepLine = (l.take i.toNat).flatMap stepLine ++ stepLine (rd_T52 l i) := by rw [hnext, List.flatMap_append]; simp
      have hall : ((l.take (i.toNat + 1)).flatMap stepLine).length ≤ (textL l).length := by
        have e : textL l = (l.take (i.toNat + 1)).flatMap stepLine ++ (l.drop (i.toNat + 1)).flatMap stepLine := by rw [← List.flatMap_append, List.take_append_drop]; rfl
        rw [e, List.length_append]; omega
      rw [hacc, List.length_append] at hall
      have HT3 : Hid (⟨((l.take (i.toNat + 1)).flatMap stepLine).toArray⟩ = t ++ ⟨(stepLine (rd_T52 l i)).toArray⟩) := by
        show _ = _
        rw [hacc, HT.out, append_arr]
      have htl : t.size = ((l.take i.toNat).flatMap stepLine).length := by rw [HT.out, size_arr]
      clear hnext hacc hmem
      generalize rd_T52 l i = s at *
      have HOKs := Lib.hid hok
      have G1 := Lib.hid g1
      have G2 := Lib.hid g2
      have hall2 : t.size + (stepLine s).length ≤ 100000000000000 := by omega
      clear hok g1 g2 hall hlen htl
      by_cases hk1 : 1 ≤ s.f0
      · have k1 : decide (s.f0 ≥ 1) = true := decide_eq_true hk1
        by_cases hk2 : s.f0 < 35
        · have k2 : decide (s.f0 ≤ 34) = true := decide_eq_true (by omega)
          go_wp2_with fail
          refine (rline_calls s hk1 hk2 A1 A2 c1 c2 _ G1.out l1 G2.out l2 HOKs.out (by omega)).mono ?_
          rintro e w5 ⟨rfl, hb5⟩
          have HB5 := Lib.hid (HW.out.trans (hb5.mono HW.out.size))
          have hxs : (⟨(stepLine s).toArray⟩ : ByteArray).size = (stepLine s).length := size_arr _
          clear hb5 h0 h1 h2 h3 h4 h5 h6 h7 h8
          generalize (⟨(stepLine s).toArray⟩ : ByteArray) = xs at *
          have hfit : t.size + xs.size ≤ 9223372036854775807 := by omega
          clear hxs hall2
          go_wp2
          go_roundg gk'
          case rel => exact ⟨i + 1, t ++ xs, by go_num, rfl, by omega, by omega, by omega, by rw [show (i + 1).toNat = i.toNat + 1 by omega]; exact Lib.hid HT3.out.symm, HB5⟩
          case measure => omega
        · have k2 : decide (s.f0 ≤ 34) = false := decide_eq_false (by omega)
          have HT4 : Hid (t = ⟨((l.take (i.toNat + 1)).flatMap stepLine).toArray⟩) := by
            show _ = _
            rw [HT3.out, show stepLine s = [] by unfold stepLine; rw [if_neg (fun h => hk2 h.2)]]
            show _ = t ++ ByteArray.empty
            rw [ByteArray.append_empty]
          go_wp2
          go_roundg gk'
          case rel => exact ⟨i + 1, t, by go_num, rfl, by omega, by omega, by omega, by rw [show (i + 1).toNat = i.toNat + 1 by omega]; exact HT4, HW⟩
          case measure => omega
      · have k1 : decide (s.f0 ≥ 1) = false := decide_eq_false hk1
        have HT4 : Hid (t = ⟨((l.take (i.toNat + 1)).flatMap stepLine).toArray⟩) := by
          show _ = _
          rw [HT3.out, show stepLine s = [] by unfold stepLine; rw [if_neg (fun h => hk1 h.1)]]
          show _ = t ++ ByteArray.empty
          rw [ByteArray.append_empty]
        go_wp2
        go_roundg gk'
        case rel => exact ⟨i + 1, t, by go_num, rfl, by omega, by omega, by omega, by rw [show (i + 1).toNat = i.toNat + 1 by omega]; exact HT4, HW⟩
        case measure => omega
    · obtain rfl : i = l.length := by omega
      have hT := HT.out
      rw [Int.toNat_natCast, List.take_length] at hT
      go_wp2
      go_ret
      exact ⟨by first | rfl | (rw [hT]; rfl), HW.out⟩

end Go.Proofs.Ytnpmkaklkonofaa.Txt
