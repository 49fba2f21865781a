/- Plain: what Escape writes. -/
import Derived.Test.YtnpmkaklkonofaaDigs
namespace Go.Proofs.Ytnpmkaklkonofaa.Txt

/-- A hexadecimal digit, the letters great. -/
def hexU (n : Nat) : UInt8 := if n < 10 then UInt8.ofNat (48 + n) else UInt8.ofNat (55 + n)
/-- A byte as it stands in a word. -/
def escC (c : UInt8) : List UInt8 := if 32 < c.toNat ∧ c.toNat < 127 ∧ c.toNat ≠ 37 then [c] else [37, hexU (c.toNat / 16), hexU (c.toNat % 16)]
def escL (l : List UInt8) : List UInt8 := if l = [] then [37] else l.flatMap escC
def escB (s : ByteArray) : ByteArray := ⟨(escL s.data.toList).toArray⟩

theorem escC_len (c : UInt8) : (escC c).length ≤ 3 := by unfold escC; split <;> simp
theorem flat_len (l : List UInt8) : (l.flatMap escC).length ≤ 3 * l.length := by
  induction l with
  | nil => simp
  | cons c l ih => have := escC_len c; rw [List.flatMap_cons, List.length_append, List.length_cons]; omega
theorem escL_len (l : List UInt8) : (escL l).length ≤ 3 * l.length + 1 := by
  unfold escL
  split
  · simp
  · have := flat_len l; omega

end Go.Proofs.Ytnpmkaklkonofaa.Txt
