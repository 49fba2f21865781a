/- The steps in memory of their own, and the law that both scripts are the same. -/
import Derived.Test.YtnpmkaklkonofaaRText
namespace Go.Proofs.Ytnpmkaklkonofaa.Txt
open Go.RowKit Go.Proofs.YtnpmkaklkonofaaW.PrintWords Go.Proofs.YtnpmkaklkonofaaW.PrintLast Go.Proofs.Ytnpmkaklkonofaa.Hand Go.Proofs.Ytnpmkaklkonofaa.Q

theorem twin_l0 (l : List S52) (hl : l.length ≤ 1048576) (hok : ∀ s ∈ l, okStep s = true) : ∀ k i, k + i = l.length → annalslaw30_twin.l0 (k + 1) l (l.take i) (i : Int) = some l
  | 0, i, h => by
    obtain rfl : i = l.length := by omega
    unfold annalslaw30_twin.l0
    rw [if_neg (by omega), List.take_length]
  | k + 1, i, h => by
    have ih := twin_l0 l hl hok k (i + 1) (by omega)
    have hmem : rd_T52 l i ∈ l := by
      unfold rd_T52
      rw [List.getD_eq_getElem?_getD, List.getElem?_eq_getElem (by omega)]
      exact List.getElem_mem _
    have hnext : l.take (i + 1) = l.take i ++ [rd_T52 l i] := by
      rw [List.take_succ_eq_append_getElem (by omega)]
      unfold rd_T52
      rw [List.getD_eq_getElem?_getD, Int.toNat_natCast, List.getElem?_eq_getElem (by omega)]; rfl
    obtain ⟨k1, k2, -, -, -⟩ := okStep_spec (hok _ hmem)
    have hw : wrap64 ((i : Int) + 1) = ((i + 1 : Nat) : Int) := by rw [show wrap64 ((i : Int) + 1) = (i : Int) + 1 from IntWalk.wrap64_in _ ⟨by omega, by omega⟩]; omega
    have hlen : (l.take i).length ≤ l.length := by rw [List.length_take]; omega
    unfold annalslaw30_twin.l0
    rw [if_pos (by omega), if_pos (by omega)]
    simp only [Option.bind_some, List.nil_append, List.length_nil, Nat.zero_add]
    rw [if_pos (by omega), if_pos (by omega), if_pos (by omega), hw]
    rw [hnext] at ih
    exact ih
theorem twin_f (l : List S52) (hl : l.length ≤ 1048576) (hok : ∀ s ∈ l, okStep s = true) : annalslaw30_twin.f (l.length + 1) l = some l := twin_l0 l hl hok l.length 0 rfl

set_option maxHeartbeats 1000000 in
set_option maxRecDepth 100000 in
theorem law_calls (A : Option Addr) (c : Nat) (l : List S52) (w : World) (hr : Kd.C k52 w A l.length l) (hc : l.length ≤ c) (hok : ∀ s ∈ l, okStep s = true) (hl : l.length ≤ 1048576) (hlen : (textL l).length ≤ 100000000000000) :
    Calls Try.prog 3 #[.slice A l.length c] w fun e w' => e = .returned (.bool true) ∧ Below w.heap.size w w' := by
  have HR := Lib.hid hr
  have HOK := Lib.hid hok
  have HL := Lib.hid hl
  have HLEN := Lib.hid hlen
  have HC := Lib.hid hc
  clear hr hok hl hlen hc
  go_enter Try.func3, Try.ntmps3
  go_wp2_with fail
  refine (annalslaw30_twin.calls (l.length + 1) A c l l _ HR.out HC.out (twin_f l HL.out HOK.out)).mono ?_
  rintro e w1 ⟨v1, rfl, hS1, hb1⟩
  obtain ⟨A1, c1, rfl, hc1, hC1⟩ := Kd.S_reads hS1
  have HB1 := Lib.hid hb1
  have HC1 := Lib.hid hC1
  have HR1 := Lib.hid (Kd.C_below HR.out hb1)
  clear hS1 hb1 hC1
  go_wp2_with fail
  refine (text_calls A1 c1 l _ HC1.out hc1 HOK.out HLEN.out).mono ?_
  rintro e w2 ⟨rfl, hb2⟩
  have HB2 := Lib.hid (HB1.out.trans (hb2.mono HB1.out.size))
  clear hb2
  go_wp2_with fail
  refine (rtext_calls A c l _ (Kd.C_below HR.out HB2.out) HC.out HOK.out HLEN.out).mono ?_
  rintro e w3 ⟨rfl, hb3⟩
  have HB3 := Lib.hid (HB2.out.trans (hb3.mono HB2.out.size))
  clear hb3
  go_wp2
  go_ret
  exact ⟨by simp, HB3.out⟩

end Go.Proofs.Ytnpmkaklkonofaa.Txt
