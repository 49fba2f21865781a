/- strings.Cut at a separator of one byte. -/
import Derived.Test.YtnpmkaklkonofaaEsc
import Derived.Test.YtnpmkaklkonofaaShelf
import Derived.BigQuiet
namespace Go.Proofs.Ytnpmkaklkonofaa.Txt
open Go.RowKit Go.Proofs.YtnpmkaklkonofaaW.PrintWords Go.Proofs.YtnpmkaklkonofaaW.PrintLast

theorem indexByte_lt (l : List UInt8) (c : UInt8) : Lib.indexByte l c < l.length := by
  induction l with
  | nil => simp [Lib.indexByte]
  | cons b l ih =>
    unfold Lib.indexByte
    split
    · simp
    · split
      · simp; omega
      · simp; omega

/-- What stands ahead of the first c, what behind it, and whether there is one. -/
def cutB (s : ByteArray) (c : UInt8) : ByteArray × ByteArray × Bool :=
  if 0 ≤ Lib.indexByte s.data.toList c then (s.extract 0 (Lib.indexByte s.data.toList c).toNat, s.extract ((Lib.indexByte s.data.toList c).toNat + 1) s.size, true) else (s, ⟨#[]⟩, false)
theorem cutB_yes {s : ByteArray} {c : UInt8} {i : Int} (hi : Lib.indexByte s.data.toList c = i) (h : 0 ≤ i) : cutB s c = (s.extract 0 i.toNat, s.extract (i.toNat + 1) s.size, true) := by unfold cutB; rw [hi, if_pos h]
theorem cutB_no {s : ByteArray} {c : UInt8} {i : Int} (hi : Lib.indexByte s.data.toList c = i) (h : ¬ 0 ≤ i) : cutB s c = (s, ⟨#[]⟩, false) := by unfold cutB; rw [hi, if_neg h]

set_option maxHeartbeats 400000 in
set_option maxRecDepth 100000 in
theorem cutlite_calls (s : ByteArray) (c : UInt8) (w : World) (hs : s.size ≤ 140737488351232) :
    Calls Try.prog 67 #[.string s, .string ⟨#[c]⟩] w fun e w' => e = .returned (.tuple #[.string (cutB s c).1, .string (cutB s c).2.1, .bool (cutB s c).2.2]) ∧ ∃ n, w' = w.drewN n := by
  have hlt := indexByte_lt s.data.toList c
  rw [dsize] at hlt
  have hge := Lib.indexByte_ge s.data.toList c
  go_enter Try.func67, Try.ntmps67
  go_wp2_with fail
  refine (Try.stringslite_Index_one s c _).mono ?_
  rintro e w' ⟨rfl, rfl⟩
  generalize hi : Lib.indexByte s.data.toList c = i at *
  have HI := Lib.hid hi
  clear hi
  by_cases h0 : 0 ≤ i
  · have hC := Lib.hid (cutB_yes HI.out h0)
    have g0 : decide (i ≥ 0) = true := decide_eq_true h0
    have hm : i.toNat ≤ s.size := by omega
    have hq1 : (0 ≤ i ∧ i ≤ (s.size : Int)) := by omega
    have hq2 : (0 ≤ i + 1 ∧ i + 1 ≤ (s.size : Int)) := by omega
    have hq3 : (i + 1).toNat = i.toNat + 1 := by omega
    have hwr : wrap64 (i + 1) = i + 1 := by unfold wrap64; omega
    go_wp2_with fail
    go_quiet (fail)
    go_wp2
    go_ret3
    exact ⟨by rw [hC.out]; rfl, nq, rfl⟩
  · have hC := Lib.hid (cutB_no HI.out h0)
    have g0 : decide (i ≥ 0) = false := decide_eq_false h0
    go_wp2
    go_ret3
    exact ⟨by rw [hC.out]; rfl, 0, rfl⟩

set_option maxHeartbeats 400000 in
set_option maxRecDepth 100000 in
theorem cut_calls (s : ByteArray) (c : UInt8) (w : World) (hs : s.size ≤ 140737488351232) :
    Calls Try.prog 44 #[.string s, .string ⟨#[c]⟩] w fun e w' => e = .returned (.tuple #[.string (cutB s c).1, .string (cutB s c).2.1, .bool (cutB s c).2.2]) ∧ ∃ n, w' = w.drewN n := by
  go_enter Try.func44, Try.ntmps44
  go_wp2_with fail
  refine (cutlite_calls s c _ hs).mono ?_
  rintro e w' ⟨rfl, n, rfl⟩
  go_wp2
  go_ret3
  exact ⟨rfl, n, rfl⟩

end Go.Proofs.Ytnpmkaklkonofaa.Txt
