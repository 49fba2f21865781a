/-
  No cell of these rows narrows 'for every input' (looked for: loops, veiled, ifaces, maps, wideKeys, modest, calm, conditions, laid).
  DERIVED. THE GIVEN ROWS OF THIS SEAT. 5 by the template 'for every input the law returns true; each argument reads behind the call as it read before'; 0 by the template 'total and deterministic' (their statements: YtnpmkaklkonofaaTotals.lean).
  GIVEN WITH THE SEED: the statements are not yours to turn. If you find one false, say at which input.
  Laid BY PROGRAM, IN A SANDBOX (cutbox-rows.mjs): the forced cells as the released guide's own fill.sh prints them over the translation e7d2dad526aad6b0… (all of the seat's roots in one cut). By AI agents, Wed Nov 11 2026. No macro, syntax, notation, axiom, sorry.
-/
import Derived.Test.YtnpmkaklkonofaaChecked
import GoSem.Claim
import GoSem.ClaimJoined
import GoSem.ClaimMapViews
import Derived.JoinedTies
import Derived.KernelRfl
namespace Go.Proofs.Ytnpmkaklkonofaa
/- THE CELL 'sum', in the pinned program and in every row, IS THE sha256 OF THE DUMP (.gsa) THAT YtnpmkaklkonofaaProg.lean LOADS. Nothing in Lean hashes anything: it is a label: what it is worth is what the hold of that sum in a sandbox is worth. -/
noncomputable def Try.pinned : Pinned := { name := "ytnpmkaklkonofaa", sum := "e7d2dad526aad6b0ab5d6ce65e338f5a3dc99c6512dffc39c9bffadf850e4d15", checked := Try.checked }
namespace Rows
def none {H : Type} : Left H := { results := [], args := [] }

/-- 'annalslaw30.PlayTextExact': WHATEVER THE INPUT: true; the input reads as it did. -/
def playTextExactSpec : ChangeSpec := { name := "playTextExact", fn := fun _ => fun
  | [d] => { results := [.lit (.bool true)], args := [d] }
  | _ => none }
def playTextExactRow : OpenClaim := { program := "ytnpmkaklkonofaa", sum := "e7d2dad526aad6b0ab5d6ce65e338f5a3dc99c6512dffc39c9bffadf850e4d15", func := "annals/annalslaw30.PlayTextExact", spec := "playTextExact", inPlace := ["internal/abi.NoEscape", "internal/bytealg.MakeNoZero"], unfollowed := true, recurses := true, apart := false }
def PlayTextExactSaid : Prop := playTextExactRow.holds Try.pinned (OpenSpec.ofChange playTextExactSpec)

/-- ITS FALSE NEIGHBOUR: 'it returns false'. Refute it at one input. -/
def playTextExactWrong : ChangeSpec := { name := "playTextExact", fn := fun _ => fun
  | [d] => { results := [.lit (.bool false)], args := [d] }
  | _ => none }
def PlayTextExactWrongFalsely : Prop := playTextExactRow.holds Try.pinned (OpenSpec.ofChange playTextExactWrong)

/-- 'annalslaw27.FrontTell': WHATEVER THE INPUT: true; the input reads as it did. -/
def frontTellSpec : ChangeSpec := { name := "frontTell", fn := fun _ => fun
  | [d1, d2] => { results := [.lit (.bool true)], args := [d1, d2] }
  | _ => none }
def frontTellRow : OpenClaim := { program := "ytnpmkaklkonofaa", sum := "e7d2dad526aad6b0ab5d6ce65e338f5a3dc99c6512dffc39c9bffadf850e4d15", func := "annals/annalslaw27.FrontTell", spec := "frontTell", inPlace := ["internal/abi.NoEscape", "internal/bytealg.MakeNoZero"], unfollowed := true, recurses := true, apart := false }
def FrontTellSaid : Prop := frontTellRow.holds Try.pinned (OpenSpec.ofChange frontTellSpec)

/-- ITS FALSE NEIGHBOUR: 'it returns false'. Refute it at one input. -/
def frontTellWrong : ChangeSpec := { name := "frontTell", fn := fun _ => fun
  | [d1, d2] => { results := [.lit (.bool false)], args := [d1, d2] }
  | _ => none }
def FrontTellWrongFalsely : Prop := frontTellRow.holds Try.pinned (OpenSpec.ofChange frontTellWrong)

/-- 'annalslaw30.PlayDecodeExact': WHATEVER THE INPUT: true; the input reads as it did. -/
def playDecodeExactSpec : ChangeSpec := { name := "playDecodeExact", fn := fun _ => fun
  | [d] => { results := [.lit (.bool true)], args := [d] }
  | _ => none }
def playDecodeExactRow : OpenClaim := { program := "ytnpmkaklkonofaa", sum := "e7d2dad526aad6b0ab5d6ce65e338f5a3dc99c6512dffc39c9bffadf850e4d15", func := "annals/annalslaw30.PlayDecodeExact", spec := "playDecodeExact", inPlace := ["internal/bytealg.IndexByteString", "internal/bytealg.IndexString", "internal/abi.NoEscape", "internal/bytealg.MakeNoZero"], unfollowed := true, recurses := true, named := ["internal/bytealg.MaxLen"], apart := false }
def PlayDecodeExactSaid : Prop := playDecodeExactRow.holds Try.pinned (OpenSpec.ofChange playDecodeExactSpec)

/-- ITS FALSE NEIGHBOUR: 'it returns false'. Refute it at one input. -/
def playDecodeExactWrong : ChangeSpec := { name := "playDecodeExact", fn := fun _ => fun
  | [d] => { results := [.lit (.bool false)], args := [d] }
  | _ => none }
def PlayDecodeExactWrongFalsely : Prop := playDecodeExactRow.holds Try.pinned (OpenSpec.ofChange playDecodeExactWrong)

/-- 'annalslaw30.PlayByLines': WHATEVER THE INPUT: true; the input reads as it did. -/
def playByLinesSpec : ChangeSpec := { name := "playByLines", fn := fun _ => fun
  | [d1, d2] => { results := [.lit (.bool true)], args := [d1, d2] }
  | _ => none }
def playByLinesRow : OpenClaim := { program := "ytnpmkaklkonofaa", sum := "e7d2dad526aad6b0ab5d6ce65e338f5a3dc99c6512dffc39c9bffadf850e4d15", func := "annals/annalslaw30.PlayByLines", spec := "playByLines", inPlace := ["internal/bytealg.IndexByteString", "internal/bytealg.IndexString", "internal/abi.NoEscape", "internal/bytealg.MakeNoZero"], unfollowed := true, recurses := true, named := ["internal/bytealg.MaxLen"], apart := false }
def PlayByLinesSaid : Prop := playByLinesRow.holds Try.pinned (OpenSpec.ofChange playByLinesSpec)

/-- ITS FALSE NEIGHBOUR: 'it returns false'. Refute it at one input. -/
def playByLinesWrong : ChangeSpec := { name := "playByLines", fn := fun _ => fun
  | [d1, d2] => { results := [.lit (.bool false)], args := [d1, d2] }
  | _ => none }
def PlayByLinesWrongFalsely : Prop := playByLinesRow.holds Try.pinned (OpenSpec.ofChange playByLinesWrong)

/-- 'annalslaw30.PlayComesBack': WHATEVER THE INPUT: true; the input reads as it did. -/
def playComesBackSpec : ChangeSpec := { name := "playComesBack", fn := fun _ => fun
  | [d] => { results := [.lit (.bool true)], args := [d] }
  | _ => none }
def playComesBackRow : OpenClaim := { program := "ytnpmkaklkonofaa", sum := "e7d2dad526aad6b0ab5d6ce65e338f5a3dc99c6512dffc39c9bffadf850e4d15", func := "annals/annalslaw30.PlayComesBack", spec := "playComesBack", inPlace := ["internal/abi.NoEscape", "internal/bytealg.MakeNoZero", "internal/bytealg.IndexByteString", "internal/bytealg.IndexString"], unfollowed := true, recurses := true, named := ["internal/bytealg.MaxLen"], apart := false }
def PlayComesBackSaid : Prop := playComesBackRow.holds Try.pinned (OpenSpec.ofChange playComesBackSpec)

/-- ITS FALSE NEIGHBOUR: 'it returns false'. Refute it at one input. -/
def playComesBackWrong : ChangeSpec := { name := "playComesBack", fn := fun _ => fun
  | [d] => { results := [.lit (.bool false)], args := [d] }
  | _ => none }
def PlayComesBackWrongFalsely : Prop := playComesBackRow.holds Try.pinned (OpenSpec.ofChange playComesBackWrong)

/- THE SECOND FORM. 'bulk': how many values and letters a reading holds, each counted each time it is reached (what is shared counts as often as it is met; a slice's spare places count too). A statement '..UptoSaid' is the law's where the arguments, and the package variables that the reading takes, are together of bulk at most 1048576: NARROWER than '..Said'. Prove '..Said' where nothing that the law and all that it calls make is longer than what came in: it says more and counts as full. Else prove '..UptoSaid'. A law counts once. -/
mutual
def uptoBulk {H : Type} : DataW H → Nat
  | .lit (.string bytes) => bytes.length + 1
  | .lit _ => 1
  | .nil => 1
  | .ptr d => uptoBulk d + 1
  | .slice elems spare => uptoBulkAll elems + uptoBulkAll spare + 1
  | .agg parts => uptoBulkAll parts + 1
  | .iface _ d => uptoBulk d + 1
  | .map entries => uptoBulkEntries entries + 1
  | .held _ => 1
def uptoBulkAll {H : Type} : List (DataW H) → Nat
  | [] => 0
  | d :: r => uptoBulk d + uptoBulkAll r
def uptoBulkEntries {H : Type} : List (Lit × DataW H) → Nat
  | [] => 0
  | x :: r => uptoBulkEntry x + uptoBulkEntries r
def uptoBulkEntry {H : Type} : Lit × DataW H → Nat
  | (.string bytes, d) => bytes.length + uptoBulk d + 1
  | (_, d) => uptoBulk d + 1
 end
def uptoSmall : (H : Type) → List (DataW H) → Bool := fun _ ds => decide (uptoBulkAll ds ≤ 1048576)
def OpenSpec.upto (s : _root_.Go.ChangeSpec) : _root_.Go.OpenSpec := { _root_.Go.OpenSpec.ofChange s with cond := some uptoSmall }

/-- 'annalslaw30.PlayTextExact', WHERE WHAT IT READS IS OF BULK AT MOST 1048576: true; the input reads as it did. -/
def playTextExactUptoRow : OpenClaim := { program := "ytnpmkaklkonofaa", sum := "e7d2dad526aad6b0ab5d6ce65e338f5a3dc99c6512dffc39c9bffadf850e4d15", func := "annals/annalslaw30.PlayTextExact", spec := "playTextExact", inPlace := ["internal/abi.NoEscape", "internal/bytealg.MakeNoZero"], unfollowed := true, recurses := true, apart := false, narrowed := true }
def PlayTextExactUptoSaid : Prop := playTextExactUptoRow.holds Try.pinned (OpenSpec.upto playTextExactSpec)

/-- 'annalslaw27.FrontTell', WHERE WHAT IT READS IS OF BULK AT MOST 1048576: true; the input reads as it did. -/
def frontTellUptoRow : OpenClaim := { program := "ytnpmkaklkonofaa", sum := "e7d2dad526aad6b0ab5d6ce65e338f5a3dc99c6512dffc39c9bffadf850e4d15", func := "annals/annalslaw27.FrontTell", spec := "frontTell", inPlace := ["internal/abi.NoEscape", "internal/bytealg.MakeNoZero"], unfollowed := true, recurses := true, apart := false, narrowed := true }
def FrontTellUptoSaid : Prop := frontTellUptoRow.holds Try.pinned (OpenSpec.upto frontTellSpec)

/-- 'annalslaw30.PlayDecodeExact', WHERE WHAT IT READS IS OF BULK AT MOST 1048576: true; the input reads as it did. -/
def playDecodeExactUptoRow : OpenClaim := { program := "ytnpmkaklkonofaa", sum := "e7d2dad526aad6b0ab5d6ce65e338f5a3dc99c6512dffc39c9bffadf850e4d15", func := "annals/annalslaw30.PlayDecodeExact", spec := "playDecodeExact", inPlace := ["internal/bytealg.IndexByteString", "internal/bytealg.IndexString", "internal/abi.NoEscape", "internal/bytealg.MakeNoZero"], unfollowed := true, recurses := true, named := ["internal/bytealg.MaxLen"], apart := false, narrowed := true }
def PlayDecodeExactUptoSaid : Prop := playDecodeExactUptoRow.holds Try.pinned (OpenSpec.upto playDecodeExactSpec)

/-- 'annalslaw30.PlayByLines', WHERE WHAT IT READS IS OF BULK AT MOST 1048576: true; the input reads as it did. -/
def playByLinesUptoRow : OpenClaim := { program := "ytnpmkaklkonofaa", sum := "e7d2dad526aad6b0ab5d6ce65e338f5a3dc99c6512dffc39c9bffadf850e4d15", func := "annals/annalslaw30.PlayByLines", spec := "playByLines", inPlace := ["internal/bytealg.IndexByteString", "internal/bytealg.IndexString", "internal/abi.NoEscape", "internal/bytealg.MakeNoZero"], unfollowed := true, recurses := true, named := ["internal/bytealg.MaxLen"], apart := false, narrowed := true }
def PlayByLinesUptoSaid : Prop := playByLinesUptoRow.holds Try.pinned (OpenSpec.upto playByLinesSpec)

/-- 'annalslaw30.PlayComesBack', WHERE WHAT IT READS IS OF BULK AT MOST 1048576: true; the input reads as it did. -/
def playComesBackUptoRow : OpenClaim := { program := "ytnpmkaklkonofaa", sum := "e7d2dad526aad6b0ab5d6ce65e338f5a3dc99c6512dffc39c9bffadf850e4d15", func := "annals/annalslaw30.PlayComesBack", spec := "playComesBack", inPlace := ["internal/abi.NoEscape", "internal/bytealg.MakeNoZero", "internal/bytealg.IndexByteString", "internal/bytealg.IndexString"], unfollowed := true, recurses := true, named := ["internal/bytealg.MaxLen"], apart := false, narrowed := true }
def PlayComesBackUptoSaid : Prop := playComesBackUptoRow.holds Try.pinned (OpenSpec.upto playComesBackSpec)

end Rows
end Go.Proofs.Ytnpmkaklkonofaa
