/- The law that two scripts one behind the other are the first's steps and then the second's. -/
import Derived.Test.YtnpmkaklkonofaaByL
import Derived.Test.YtnpmkaklkonofaaGDec
set_option linter.unusedVariables false
set_option linter.unusedSimpArgs false
namespace Go.Proofs.Ytnpmkaklkonofaa.Txt
open Go.RowKit Go.Proofs.YtnpmkaklkonofaaW.PrintWords Go.Proofs.YtnpmkaklkonofaaW.PrintLast Go.Proofs.Ytnpmkaklkonofaa.Hand Go.Proofs.Ytnpmkaklkonofaa.Q Go.Proofs.YtnpmkaklkonofaaW.PrintMore

theorem slice_to (A : Option Addr) (c n m : Nat) (hm : m ≤ n) (hc : n ≤ c) : ∀ W : World, (Instr.slice 22 (.slice A n c) none (some (.int .i64 (m : Int))) none).run Try.prog W = .ok (.slice A m c) W := by
  obtain ⟨i0, hi, hz⟩ := Option.map_eq_some_iff.1 info52
  intro W
  have := cut_to (P := Try.prog) 22 52 .i64 Try.underlying22 hi A n c (m : Int) (by omega) (by omega) hc W
  simpa using this
theorem slice_from (A : Option Addr) (c n m : Nat) (hm : m ≤ n) (hc : n ≤ c) : ∃ Ax : Option Addr, (∀ W : World, (Instr.slice 22 (.slice A n c) (some (.int .i64 (m : Int))) none none).run Try.prog W = .ok (.slice Ax (n - m) (c - m)) W) ∧
    ∀ (w : World) (l : List S52), l.length = n → Kd.C k52 w A n l → Kd.C k52 w Ax (n - m) (l.drop m) := by
  obtain ⟨i0, hi, hz⟩ := Option.map_eq_some_iff.1 info52
  simp only [Prod.mk.injEq] at hz
  refine ⟨if c = m then A else A.map (·.add (m * 9)), fun W => ?_, fun w l hl h => ?_⟩
  · have := cut_from (P := Try.prog) 22 52 .i64 Try.underlying22 hi 9 hz.2.1 A n c (m : Int) (by omega) (by omega) W
    simpa using this
  · subst hl
    have h2 := Kd.C_drop (m := m) h hm hc
    rw [List.length_drop] at h2
    exact h2

theorem cntNl_next (l : List UInt8) (i : Nat) (hi : i < l.length) : cntNl (l.take (i + 1)) = cntNl (l.take i) + if l[i] = 10 then 1 else 0 := by
  unfold cntNl
  rw [List.take_succ_eq_append_getElem hi, List.countP_append]
  by_cases h : l[i] = 10
  · simp [h]
  · simp [h]
theorem cntNl_le (l : List UInt8) : cntNl l ≤ l.length := List.countP_le_length

set_option maxHeartbeats 600000 in
set_option maxRecDepth 100000 in
theorem byLines_calls (one two : ByteArray) (h1 : one.size ≤ 400000000) (h2 : two.size ≤ 400000000) (w : World) :
    Calls Try.prog 6 #[.string one, .string two] w fun e w' => e = .returned (.bool true) ∧ Below w.heap.size w w' := by
  have hu1 := Try.underlying52
  have hu2 := Try.underlying50
  have hs1 : (one ++ (⟨#[10]⟩ : ByteArray)).size = one.size + 1 := by rw [ByteArray.size_append]; rfl
  have hs2 : ((one ++ (⟨#[10]⟩ : ByteArray)) ++ two).size = one.size + 1 + two.size := by rw [ByteArray.size_append, hs1]
  have hcat := decode_app (one ++ (⟨#[10]⟩ : ByteArray)) two one.data.toList (by simp)
  have herr := decode_err
  have hok := decode_ok (one ++ (⟨#[10]⟩ : ByteArray))
  have hok2 := decode_ok two
  have H0 := Lib.hid (fun W => decode_calls ⟨#[114, 111, 111, 116, 32, 55, 10]⟩ (by decide) W)
  rw [root7] at H0
  have H1 := Lib.hid (fun W => decode_calls (one ++ (⟨#[10]⟩ : ByteArray)) (by omega) W)
  have H2 := Lib.hid (fun W => decode_calls two (by omega) W)
  have H3 := Lib.hid (fun W => decode_calls ((one ++ (⟨#[10]⟩ : ByteArray)) ++ two) (by omega) W)
  have he1 := herr (one ++ (⟨#[10]⟩ : ByteArray))
  have he2 := herr two
  have hr2 := decode_range two
  generalize hfst : one ++ (⟨#[10]⟩ : ByteArray) = first at *
  generalize hD1 : decodeP first = D1 at *
  generalize hD2 : decodeP two = D2 at *
  generalize hD3 : decodeP (first ++ two) = D3 at *
  obtain ⟨la, ia, ea⟩ := D1
  obtain ⟨lb, ib, eb⟩ := D2
  obtain ⟨lc, ic, ec⟩ := D3
  have HCat := Lib.hid hcat
  have HE1 := Lib.hid he1
  have HE2 := Lib.hid he2
  have HR2 := Lib.hid hr2
  dsimp only at H1 H2 H3
  clear hD1 hD2 hD3 hcat he1 he2 herr hok hok2 hr2
  go_enter Try.func6, Try.ntmps6
  go_wp2_with fail
  refine (H0.out _).mono ?_
  rintro e w0 ⟨v0, rfl, hR0, hb0⟩
  obtain ⟨A0, c0, e0, hc0, hC0⟩ := Kd.R_reads hR0
  subst e0
  obtain ⟨ad0, A1, c1, A2, c2, ea0, a0, a1, a2, a3, a4, a5, a6, a7, a8, l1, g1, l2, g2⟩ := at_T52 hC0 0 (by omega) (by decide)
  subst ea0
  obtain ⟨ad1, eb0, b0⟩ := Kd.at_int g1 0 (by omega) (by decide)
  subst eb0
  have c00 : w0.cell? ad0 = some (.int .i64 7) := a0
  have c01 : w0.cell? { block := ad0.block, off := ad0.off + 1 } = some (.slice (some ad1) 1 c1) := a1
  have c02 : w0.cell? ad1 = some (.int .i64 7) := b0
  have hc1 : 1 ≤ c1 := l1
  have hc0' : 1 ≤ c0 := hc0
  have HB0 := Lib.hid hb0
  clear hR0 hC0 a0 a1 a2 a3 a4 a5 a6 a7 a8 l1 g1 l2 g2 b0 hb0
  go_wp2_with fail
  clear c00 c01 c02 hc1 hc0'

  refine (H1.out _).mono ?_
  rintro e w1 ⟨v1, rfl, hR1, hb1⟩
  obtain ⟨A3, c3, e3, hc3, hC3⟩ := Kd.R_reads hR1
  subst e3
  have HC3 := Lib.hid hC3
  have HB1 := Lib.hid (HB0.out.trans (hb1.mono HB0.out.size))
  clear hR1 hC3 hb1
  go_wp2_with fail
  refine (H2.out _).mono ?_
  rintro e w2 ⟨v2, rfl, hR2, hb2⟩
  obtain ⟨A4, c4, e4, hc4, hC4⟩ := Kd.R_reads hR2
  subst e4
  have HC4 := Lib.hid hC4
  have HC3' := Lib.hid (Kd.C_below HC3.out hb2)
  have HB2 := Lib.hid (HB1.out.trans (hb2.mono HB1.out.size))
  clear hR2 hC4 hb2 HC3
  go_wp2_with fail
  refine (H3.out _).mono ?_
  rintro e w3 ⟨v3, rfl, hR3, hb3⟩
  obtain ⟨A5, c5, e5, hc5, hC5⟩ := Kd.R_reads hR3
  subst e5
  have HC5 := Lib.hid hC5
  have HC3'' := Lib.hid (Kd.C_below HC3'.out hb3)
  have HC4' := Lib.hid (Kd.C_below HC4.out hb3)
  have HB3 := Lib.hid (HB2.out.trans (hb3.mono HB2.out.size))
  clear hR3 hC5 hb3 HC3' HC4 H0 H1 H2 H3
  by_cases hea : ea = 0
  · have q1 : (ea != 0) = false := by simpa using hea
    by_cases heb : eb = 0
    · have hD := HCat.out.2.2 hea heb
      have hD1 : lc = la ++ lb := congrArg (·.1) hD
      have hD2 : ic = 0 := congrArg (·.2.1) hD
      have hD3 : ec = 0 := congrArg (·.2.2) hD
      subst hea heb hD1 hD2 hD3
      clear hD
      have hlen : ((la ++ lb).length : Int) = (la.length : Int) + (lb.length : Int) := by simp
      have HL5 : Hid (la.length + lb.length ≤ 9223372036854775807) := by
        have := HC5.out.2.1
        rw [List.length_append] at this
        exact this
      go_wp2_with fail
      · rename_i hx
        have := HL5.out
        rw [wrap64_of (by omega) (by omega)] at hx
        simp at hx
      have HT := Kd.C_take (m := la.length) HC5.out (by rw [List.length_append]; omega)
      rw [List.take_left' rfl] at HT
      refine (same_calls A5 A3 c5 c3 la _ HT (by omega) HC3''.out hc3).mono ?_
      rintro e w4 ⟨rfl, hb4⟩
      clear HT
      have HC5' := Lib.hid (Kd.C_below HC5.out hb4)
      have HC4'' := Lib.hid (Kd.C_below HC4'.out hb4)
      have HB4 := Lib.hid (HB3.out.trans (hb4.mono HB3.out.size))
      have HDp := Lib.hid (Kd.C_drop (m := la.length) (c := c5) HC5'.out (by rw [List.length_append]; omega) hc5)
      rw [List.drop_left' rfl] at HDp
      clear hb4
      go_wp2_with fail
      case inl =>
        have hc : c5 = la.length := by omega
        have hD4 := HDp.out
        rw [if_pos hc] at hD4
        refine (same_calls A5 A4 0 c4 lb _ hD4 (by omega) HC4''.out hc4).mono ?_
        rintro e w5 ⟨rfl, hb5⟩
        have HB5 := Lib.hid (HB4.out.trans (hb5.mono HB4.out.size))
        clear hb5 hD4
        go_wp2_with fail
        go_ret
        exact ⟨rfl, HB5.out⟩
      case inr =>
        have hc : ¬ c5 = la.length := by omega
        have hD4 := HDp.out
        rw [if_neg hc] at hD4
        refine (same_calls _ A4 (c5 - la.length) c4 lb _ hD4 (by omega) HC4''.out hc4).mono ?_
        rintro e w5 ⟨rfl, hb5⟩
        have HB5 := Lib.hid (HB4.out.trans (hb5.mono HB4.out.size))
        clear hb5 hD4
        go_wp2_with fail
        go_ret
        exact ⟨rfl, HB5.out⟩
    · have q2 : (eb != 0) = true := by simpa using heb
      have hD := HCat.out.2.1 hea heb
      have hD1 : lc = [] := congrArg (·.1) hD
      have hD2 : ic = (cntNl first.data.toList : Int) + ib := congrArg (·.2.1) hD
      have hD3 : ec = eb := congrArg (·.2.2) hD
      subst hea hD1 hD2 hD3
      clear hD
      have hfl : first.data.toList.length = first.size := Array.length_toList
      have hcz : cntNl (first.data.toList.take 0) = 0 := rfl
      have hz0 : Hid (((0 : Nat) : Int) = (cntNl (first.data.toList.take 0) : Int)) := by rw [hcz]; rfl
      go_wp2_with fail
      go_loopg [18, 19] first.size (fun gk v18 v19 wr => ∃ i : Nat, wr = w3 ∧ v19 = .int .i64 i ∧ v18 = .int .i64 (cntNl (first.data.toList.take i)) ∧ gk + i = first.size)
      case atStart => exact ⟨0, rfl, rfl, rfl, by omega⟩
      case round =>
        obtain ⟨i, rfl, rfl, rfl, hgk⟩ := hrel
        by_cases hlt : i < first.size
        · obtain ⟨gk', rfl⟩ : ∃ m, gk = m + 1 := ⟨gk - 1, by omega⟩
          have hn := cntNl_next first.data.toList i (by omega)
          have hle := cntNl_le (first.data.toList.take i)
          have hle2 : (first.data.toList.take i).length ≤ i := by rw [List.length_take]; omega
          have hge : first.data.toList[i]'(by omega) = first[i] := rfl
          rw [hge] at hn
          by_cases h10 : first[i] = 10
          · have q5 : ((first[i].toNat : Int) == 10) = true := by rw [h10]; rfl
            rw [if_pos h10] at hn
            go_wp2_with fail
            go_roundg gk'
            case rel => exact ⟨i + 1, rfl, by go_num, by rw [hn]; go_num, by omega⟩
            case measure => omega
          · have q5 : ((first[i].toNat : Int) == 10) = false := by
              rw [beq_eq_false_iff_ne]
              exact fun e => h10 (UInt8.toNat_inj.1 (by have : (10 : UInt8).toNat = 10 := rfl; omega))
            rw [if_neg h10] at hn
            go_wp2_with fail
            go_roundg gk'
            case rel => exact ⟨i + 1, rfl, by go_num, by rw [hn]; rfl, by omega⟩
            case measure => omega
        · obtain rfl : i = first.size := by omega
          have ht : first.data.toList.take first.size = first.data.toList := by rw [← hfl, List.take_length]
          have hle := cntNl_le first.data.toList
          have hkk : cntNl first.data.toList ≤ first.size := by omega
          rw [ht]
          generalize cntNl first.data.toList = kk at *
          obtain ⟨hr1, hr2⟩ := HR2.out
          have hr3 : ib ≤ 400000001 := by omega
          have hr4 : (kk : Int) ≤ 400000001 := by omega
          clear hr2 hkk hle ht hfl hcz hz0 hgk
          go_wp2_with fail
          go_ret
          exact ⟨rfl, HB3.out⟩
  · have q1 : (ea != 0) = true := by simpa using hea
    have hD := HCat.out.1 hea
    have hD1 : lc = [] := congrArg (·.1) hD
    have hD2 : ic = ia := congrArg (·.2.1) hD
    have hD3 : ec = ea := congrArg (·.2.2) hD
    subst hD1 hD2 hD3
    clear hD
    go_wp2_with fail
    go_ret
    exact ⟨rfl, HB3.out⟩
end Go.Proofs.Ytnpmkaklkonofaa.Txt
