/- Plain: the words of a step's line. -/
import Derived.Test.YtnpmkaklkonofaaEscL
import Derived.Test.YtnpmkaklkonofaaShapesL
namespace Go.Proofs.Ytnpmkaklkonofaa.Txt

/-- How far the words are: those that stand, how many numbers and texts are behind. -/
structure WSt where
  out : List ByteArray
  a : Nat
  b : Nat

def wstep (N : List Int) (S : List ByteArray) (o : List Int) (x : WSt) (c : UInt8) : WSt :=
  if c = 110 then ⟨x.out ++ [decB (N.getD x.a 0)], x.a + 1, x.b⟩
  else if c = 115 then ⟨x.out ++ [escB (S.getD x.b ByteArray.empty)], x.a, x.b + 1⟩
  else if c = 111 then ⟨x.out ++ o.map decB, x.a, x.b⟩
  else if c = 78 then ⟨x.out ++ (N.drop x.a).map decB, max x.a N.length, x.b⟩
  else if c = 83 then ⟨x.out ++ (S.drop x.b).map escB, x.a, max x.b S.length⟩
  else x
def wordsOf (word wants : List UInt8) (N : List Int) (S : List ByteArray) (o : List Int) : WSt := wants.foldl (wstep N S o) ⟨[⟨word.toArray⟩], 0, 0⟩
def stepWords (kind : Nat) (N : List Int) (S : List ByteArray) (o : List Int) : List ByteArray := (wordsOf (shapeT.getD kind ([], [])).1 (shapeT.getD kind ([], [])).2 N S o).out

theorem wstep_bounds (N : List Int) (S : List ByteArray) (o : List Int) (x : WSt) (c : UInt8) :
    (wstep N S o x c).out.length ≤ x.out.length + 1 + o.length + N.length + S.length ∧ (wstep N S o x c).a ≤ x.a + 1 + N.length ∧ (wstep N S o x c).b ≤ x.b + 1 + S.length := by
  unfold wstep
  split
  · simp; omega
  · split
    · simp; omega
    · split
      · simp; omega
      · split
        · simp; omega
        · split
          · simp; omega
          · exact ⟨by omega, by omega, by omega⟩

end Go.Proofs.Ytnpmkaklkonofaa.Txt
