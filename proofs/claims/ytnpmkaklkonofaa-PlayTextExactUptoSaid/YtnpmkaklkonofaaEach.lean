/- text.each: a function called at each byte of a string, as long as it says yes. -/
import Derived.Test.YtnpmkaklkonofaaProg
import Derived.Test.YtnpmkaklkonofaaRows
import Derived.WalkKit
import Derived.WalkSpells
import Derived.WalkLawsBesides
import Derived.Lib.Hide
import Derived.Test.YtnpmkaklkonofaaWWords
import Derived.Test.YtnpmkaklkonofaaWLast
namespace Go.Proofs.Ytnpmkaklkonofaa.Txt
open Go.RowKit Go.Proofs.YtnpmkaklkonofaaW.PrintWords Go.Proofs.YtnpmkaklkonofaaW.PrintLast

set_option maxHeartbeats 400000 in
set_option maxRecDepth 100000 in
/-- I: what holds ahead of byte i; J: what holds behind a no. -/
theorem each_calls (s : ByteArray) (F : Nat) (cv : Value) (hF : ∀ args (W : World), (callFunc F args).run Try.prog W = .ok (.enter F args) W) (I : Nat → World → Prop) (J : World → Prop) (w : World) (hs : s.size ≤ 140737488351232) (h0 : I 0 w)
    (hc : ∀ i (hi : i < s.size) (W : World), I i W → Calls Try.prog F #[.int .u8 (s[i].toNat : Int), cv] W fun e W' => (e = .returned (.bool true) ∧ I (i + 1) W') ∨ (e = .returned (.bool false) ∧ J W')) :
    Calls Try.prog 77 #[.string s, .func (.func F) #[] #[cv]] w fun e w' => (e = .returned (.bool true) ∧ I s.size w') ∨ (e = .returned (.bool false) ∧ J w') := by
  have HC := Lib.hid hc
  have H0 := Lib.hid h0
  clear hc h0
  go_enter Try.func77, Try.ntmps77
  go_wp2
  go_loopw [4, 5] (fun v4 v5 wr => ∃ k : Nat, v5 = .int .i64 k ∧ v4 = .bool false ∧ k ≤ s.size ∧ Hid (I k wr)) (fun _ v5 _ => s.size - (intOf v5).toNat)
  case atStart => exact ⟨0, rfl, rfl, by omega, H0⟩
  case round =>
    obtain ⟨k, rfl, rfl, hk, HI⟩ := hrel
    by_cases hlt : k < s.size
    · go_wp2_with fail
      refine (HC.out k hlt _ HI.out).mono ?_
      rintro e w' (⟨rfl, h1⟩ | ⟨rfl, h1⟩)
      · have H1 := Lib.hid h1
        clear h1
        go_wp2
        go_roundw
        case rel => exact ⟨k + 1, by go_num, rfl, by omega, H1⟩
        case measure => simp [intOf]; omega
      · have H1 := Lib.hid h1
        clear h1
        go_wp2
        go_ret
        exact .inr ⟨rfl, H1.out⟩
    · go_wp2
      go_ret
      obtain rfl : k = s.size := by omega
      exact .inl ⟨rfl, HI.out⟩

end Go.Proofs.Ytnpmkaklkonofaa.Txt
