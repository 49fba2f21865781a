/- Plain: the decimal digits of a number, as the program and the document write them. -/
import Derived.RowKit
namespace Go.Proofs.Ytnpmkaklkonofaa.Txt

/-- The decimal digits of a natural number. -/
def digs (v : Nat) : List UInt8 := if h : v < 10 then [UInt8.ofNat (48 + v)] else digs (v / 10) ++ [UInt8.ofNat (48 + v % 10)]
termination_by v
decreasing_by omega

theorem digs_lt {v : Nat} (h : v < 10) : digs v = [UInt8.ofNat (48 + v)] := by rw [digs]; simp [h]
theorem digs_ge {v : Nat} (h : 10 ≤ v) : digs v = digs (v / 10) ++ [UInt8.ofNat (48 + v % 10)] := by
  rw [digs]; simp [show ¬ v < 10 by omega]

theorem digs_pos (v : Nat) : 0 < (digs v).length := by
  rw [digs]; split <;> simp

theorem digs_len (k : Nat) : ∀ v : Nat, v < 10 ^ k → 0 < k → (digs v).length ≤ k := by
  induction k with
  | zero => intro v _ h; omega
  | succ k ih =>
    intro v hv _
    by_cases h : v < 10
    · rw [digs_lt h]; simp
    · rw [digs_ge (by omega)]
      have hk : 0 < k := by
        rcases Nat.eq_zero_or_pos k with rfl | h'
        · simp at hv; omega
        · exact h'
      have := ih (v / 10) (by rw [Nat.pow_succ] at hv; omega) hk
      simp; omega

/-- A number's text: a minus sign where it is below nought, then the digits. -/
def decL (n : Int) : List UInt8 := (if n < 0 then [45] else []) ++ digs n.natAbs
def decB (n : Int) : ByteArray := ⟨(decL n).toArray⟩

theorem decL_len (n : Int) (h1 : -9223372036854775808 ≤ n) (h2 : n ≤ 9223372036854775807) : (decL n).length ≤ 20 := by
  have := digs_len 19 n.natAbs (by omega) (by omega)
  unfold decL
  split <;> simp <;> omega

end Go.Proofs.Ytnpmkaklkonofaa.Txt
