/- The document's own Dec writes the same digits. -/
import Derived.Test.YtnpmkaklkonofaaQx2
import Derived.Test.YtnpmkaklkonofaaHand
namespace Go.Proofs.Ytnpmkaklkonofaa.Txt
open Go.RowKit Go.Proofs.YtnpmkaklkonofaaW.PrintWords Go.Proofs.YtnpmkaklkonofaaW.PrintLast Go.Proofs.Ytnpmkaklkonofaa.Hand Go.Proofs.Ytnpmkaklkonofaa.Q

set_option maxRecDepth 100000 in
theorem rsign_f (x : Int) (v : Nat) (hx : x = v) (h : v < 10) : annalsref4_sign.f (⟨#[48, 49, 50, 51, 52, 53, 54, 55, 56, 57, 97, 98, 99, 100, 101, 102]⟩ : ByteArray) x = some ⟨[UInt8.ofNat (48 + v)].toArray⟩ := by
  subst hx
  have key : ∀ m : Fin 10, ((⟨#[48, 49, 50, 51, 52, 53, 54, 55, 56, 57, 97, 98, 99, 100, 101, 102]⟩ : ByteArray).extract m.val (m.val + 1)).data.toList = [UInt8.ofNat (48 + m.val)] := by decide +kernel
  have hw : wrap64 ((v : Int) + 1) = ((v + 1 : Nat) : Int) := by unfold wrap64; omega
  have hz : (⟨#[48, 49, 50, 51, 52, 53, 54, 55, 56, 57, 97, 98, 99, 100, 101, 102]⟩ : ByteArray).size = 16 := rfl
  unfold annalsref4_sign.f
  rw [hw, hz, if_pos (by omega), if_pos (by omega), if_pos (by omega), Int.toNat_natCast, Int.toNat_natCast]
  congr 1
  exact ByteArray.ext (Array.toList_inj.1 (key ⟨v, h⟩))

theorem decB_small (v : Nat) (h : v < 10) : decB (v : Int) = ⟨[UInt8.ofNat (48 + v)].toArray⟩ := by
  unfold decB decL
  rw [if_neg (by omega), Int.natAbs_natCast, digs_lt h]; rfl
theorem decB_ge (v : Nat) (h : 10 ≤ v) : decB (v : Int) = decB ((v / 10 : Nat) : Int) ++ ⟨[UInt8.ofNat (48 + v % 10)].toArray⟩ := by
  unfold decB decL
  rw [if_neg (by omega), if_neg (by omega), Int.natAbs_natCast, Int.natAbs_natCast, digs_ge h, append_arr]; simp
theorem decB_neg_small (v : Nat) (h : v < 10) (h0 : 0 < v) : decB (-(v : Int)) = (⟨#[45]⟩ : ByteArray) ++ ⟨[UInt8.ofNat (48 + v)].toArray⟩ := by
  unfold decB decL
  rw [if_pos (by omega), show (-(v : Int)).natAbs = v by omega, digs_lt h]
  exact (append_arr [45] _).symm
theorem decB_neg_ge (v : Nat) (h : 10 ≤ v) : decB (-(v : Int)) = decB (-((v / 10 : Nat) : Int)) ++ ⟨[UInt8.ofNat (48 + v % 10)].toArray⟩ := by
  unfold decB decL
  rw [if_pos (by omega), if_pos (by omega), show (-(v : Int)).natAbs = v by omega, show (-((v / 10 : Nat) : Int)).natAbs = v / 10 by omega, digs_ge h, append_arr]; simp
theorem decB_size (x : Int) (h1 : -9223372036854775808 ≤ x) (h2 : x ≤ 9223372036854775807) : (decB x).size ≤ 20 := by
  unfold decB; rw [size_arr]; exact decL_len x h1 h2

theorem rdec_pos (k : Nat) : ∀ v : Nat, v ≤ 9223372036854775807 → v < 10 ^ (k + 1) → annalsref4_Dec.f (2 * k + 2) (v : Int) = some (decB (v : Int)) := by
  induction k with
  | zero =>
    intro v hv hk
    have h10 : v < 10 := by simpa using hk
    simp only [annalsref4_Dec.f, annalsref4_Dec.j0]
    rw [if_pos (by omega), if_pos (by simp; omega), rsign_f _ v rfl h10, Option.bind_some, decB_small v h10]
  | succ k ih =>
    intro v hv hk
    rw [show 2 * (k + 1) + 2 = (2 * k + 2) + 1 + 1 by omega]
    generalize 2 * k + 2 = m_ at ih ⊢
    simp only [annalsref4_Dec.f, annalsref4_Dec.j0]
    rw [if_pos (by omega)]
    by_cases h10 : v < 10
    · rw [if_pos (by simp; omega), rsign_f _ v rfl h10, Option.bind_some, decB_small v h10]
    · have ht : wrap64 (Int.tdiv (v : Int) 10) = ((v / 10 : Nat) : Int) := by
        rw [Int.tdiv_eq_ediv_of_nonneg (by omega)]; unfold wrap64; omega
      have hm : Int.tmod (v : Int) 10 = ((v % 10 : Nat) : Int) := by rw [Int.tmod_eq_emod_of_nonneg (by omega)]; omega
      rw [if_neg (by simp; omega), if_pos (by omega), ht, ih (v / 10) (by omega) (by rw [Nat.pow_succ] at hk; omega), Option.bind_some, rsign_f _ (v % 10) hm (by omega), Option.bind_some]
      have hsz := decB_size ((v / 10 : Nat) : Int) (by omega) (by omega)
      rw [if_pos (by rw [size_arr [UInt8.ofNat (48 + v % 10)], List.length_singleton]; omega), decB_ge v (by omega)]

theorem rdec_neg (k : Nat) : ∀ v : Nat, 0 < v → v ≤ 9223372036854775808 → v < 10 ^ (k + 1) → annalsref4_Dec.f (2 * k + 2) (-(v : Int)) = some (decB (-(v : Int))) := by
  induction k with
  | zero =>
    intro v h0 hv hk
    have h10 : v < 10 := by simpa using hk
    simp only [annalsref4_Dec.f, annalsref4_Dec.j0]
    have hw : wrap64 (- -(v : Int)) = (v : Int) := by unfold wrap64; omega
    rw [if_neg (by omega), if_neg (by simp), if_neg (by omega), if_pos (by omega), rsign_f _ v hw h10, Option.bind_some, if_pos (by rw [size_arr, List.length_singleton]; omega), decB_neg_small v h10 h0]
  | succ k ih =>
    intro v h0 hv hk
    rw [show 2 * (k + 1) + 2 = (2 * k + 2) + 1 + 1 by omega]
    generalize 2 * k + 2 = m_ at ih ⊢
    simp only [annalsref4_Dec.f, annalsref4_Dec.j0]
    rw [if_neg (by omega), if_neg (by simp), if_neg (by omega)]
    by_cases h10 : v < 10
    · have hw : wrap64 (- -(v : Int)) = (v : Int) := by unfold wrap64; omega
      rw [if_pos (by omega), rsign_f _ v hw h10, Option.bind_some, if_pos (by rw [size_arr, List.length_singleton]; omega), decB_neg_small v h10 h0]
    · have ht : wrap64 (Int.tdiv (-(v : Int)) 10) = -((v / 10 : Nat) : Int) := by
        rw [Int.neg_tdiv, Int.tdiv_eq_ediv_of_nonneg (by omega)]; unfold wrap64; omega
      have hm : wrap64 (-(Int.tmod (-(v : Int)) 10)) = ((v % 10 : Nat) : Int) := by
        rw [Int.neg_tmod, Int.tmod_eq_emod_of_nonneg (by omega)]; unfold wrap64; omega
      rw [if_neg (by omega), ht, ih (v / 10) (by omega) (by omega) (by rw [Nat.pow_succ] at hk; omega), Option.bind_some, rsign_f _ (v % 10) hm (by omega), Option.bind_some]
      have hsz := decB_size (-((v / 10 : Nat) : Int)) (by omega) (by omega)
      rw [if_pos (by rw [size_arr [UInt8.ofNat (48 + v % 10)], List.length_singleton]; omega), decB_neg_ge v (by omega)]

theorem rdec_f (x : Int) (h1 : -9223372036854775808 ≤ x) (h2 : x ≤ 9223372036854775807) : annalsref4_Dec.f 40 x = some (decB x) := by
  by_cases h : 0 ≤ x
  · have := rdec_pos 19 x.toNat (by omega) (by omega)
    rwa [show ((x.toNat : Nat) : Int) = x by omega] at this
  · have := rdec_neg 19 (-x).toNat (by omega) (by omega) (by omega)
    rwa [show -(((-x).toNat : Nat) : Int) = x by omega] at this

theorem rdec_calls (x : Int) (w : World) (h1 : -9223372036854775808 ≤ x) (h2 : x ≤ 9223372036854775807) :
    Calls Try.prog 34 #[.int .i64 x] w fun e w' => e = .returned (.string (decB x)) ∧ Drawn0 w w' :=
  annalsref4_Dec.calls 40 x _ w (rdec_f x h1 h2)

end Go.Proofs.Ytnpmkaklkonofaa.Txt
