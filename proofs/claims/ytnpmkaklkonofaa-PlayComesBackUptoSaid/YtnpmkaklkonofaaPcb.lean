/- PlayComesBack, where what it reads is of bulk at most 1048576: the law returns true and leaves the steps as they were. Conditions: those of the given row, none more. -/
import Derived.Test.YtnpmkaklkonofaaRows
import Derived.Test.YtnpmkaklkonofaaGOpen
import Derived.Test.YtnpmkaklkonofaaGBack
import Derived.WalkKit
import Derived.ProofKit
import Derived.OpenShut
import Derived.JoinedCond
import Derived.Carry
set_option linter.unusedSimpArgs false
namespace Go.Proofs.Ytnpmkaklkonofaa.playComesBack
open Go.ChangeShapes Go.WideShapes Go.ChangeAt Go.RowKit Go.Proofs.Ytnpmkaklkonofaa.Txt Go.Proofs.YtnpmkaklkonofaaW.PrintWords Go.Proofs.YtnpmkaklkonofaaW.PrintLast Go.Proofs.Ytnpmkaklkonofaa.Q
set_option linter.unusedVariables false

theorem own : ownKnob Try.prog.godebug = none := by kernel_rfl
theorem laidOut : laidOutB Try.prog = true := by kernel_rfl

set_option maxRecDepth 100000 in
theorem contract (H : Type) (enc : TypeId × Value → H) (W : World) (base : Nat) (args : Array Value) (ds gs : List (DataW H)) (before : List MemPlace)
    (hval : ∀ (j : Nat) t v, Try.f7.params[j]? = some t → args[j]? = some v → Value.okWide Try.prog W .any base t v)
    (hW : DataW.Whole enc Try.prog Try.f7.params.toList Rows.playComesBackSpec.vars false W args.toList ds gs before)
    (hk : Rows.uptoSmall H (ds ++ gs) = true) :
    Calls Try.prog 7 args W fun e W' => ∃ v, e = .returned v ∧ Rows.playComesBackSpec.post enc Try.prog Try.f7 false true false false W args v W' := by
  have hW' := hW
  obtain ⟨p, q, hA0, hV, rfl, hfz, hnd⟩ := hW
  have hA : DataW.TrodAll enc Try.prog W 0 (fun _ => true) true Try.f7.params.toList args.toList ds p := hA0
  rw [Try.params7] at hA hval
  obtain ⟨v0, vs0, d0, ds0, p0, q0, hargs, rfl, rfl, h0, r0⟩ := trodAll_cons hA
  obtain ⟨rfl, rfl, rfl⟩ := trodAll_nil r0
  obtain rfl : args = #[v0] := by cases args; simp_all
  obtain ⟨rfl, rfl⟩ := trodVars_none hV
  obtain ⟨a, len, cap, rfl⟩ := okWide_slice Try.underlying22 (hval 0 22 v0 rfl rfl)
  have k0 := h0
  have lt0 : ∀ x ∈ p0, x.block < W.heap.size := by obtain ⟨m, hm⟩ := k0; exact DataW.trod_lt m _ _ _ hm
  obtain ⟨fuel, hf⟩ := h0
  obtain ⟨A, c, xs, hcs, hlc, hC, hok, hsum, hlen⟩ := row_of k52 stepB stepOk Try.underlying22 cellsSt' hf (fun n cs' y hy => step_of hy)
  have e0 : Value.slice a len cap = .slice A xs.length c := by simpa [Value.cells] using hcs
  rw [e0] at k0 ⊢
  rw [e0] at hW'
  have hb : Rows.uptoBulk d0 ≤ 1048576 := by simpa [Rows.uptoSmall, Rows.uptoBulkAll] using hk
  have hsum' : (xs.map stepB).sum + 1 ≤ Rows.uptoBulk d0 := hsum
  have hlen' : xs.length + 1 ≤ Rows.uptoBulk d0 := hlen
  have hB : ∀ s ∈ xs, stepB s ≤ 1048576 := fun s hs => by have := mem_stepB xs hs; omega
  have hwb : (xs.map wB).sum = (xs.map stepB).sum := by
    congr 1
    refine List.map_congr_left fun s _ => ?_
    unfold wB stepB
    omega
  clear hA0
  refine (back_calls A c xs W hC hlc (fun s hs => okStep_of (hok s hs) (hB s hs)) (by omega)).mono fun e W' ⟨he, bel⟩ => ?_
  subst he
  exact ⟨_, rfl, _, _, _, [], _, [], hW', trodAll_mk1 (shut_bool Try.underlying4 _), (trodAll_cons_mk (Below.trod laidOut (by kernel_rfl) (of_decide_eq_true (by kernel_rfl)) k0 bel lt0) trodAll_mk0), rfl, bel.frame _, fun h => by cases h⟩

set_option maxRecDepth 100000 in
theorem lifted (os : Os) (started : os.Started) (H : Type) (enc : TypeId × Value → H) (F : Stop.Interp) :
    ReturnsInHanded {} Try.checked os 7 .any ((Rows.OpenSpec.upto Rows.playComesBackSpec).pre6 enc Try.prog Try.f7 Rows.playComesBackUptoRow.domain false) (((Rows.OpenSpec.upto Rows.playComesBackSpec).at F).post enc Try.prog Try.f7 false true false false) := by
  refine returnsInHanded_of_cond (C := Try.checked) (s := Rows.OpenSpec.upto Rows.playComesBackSpec) (k := Rows.uptoSmall) rfl own started (by kernel_rfl) Try.func7
    (OpenSpec.witness (enc := enc) (C := Try.checked) (s := Rows.OpenSpec.upto Rows.playComesBackSpec) (k := Rows.uptoSmall) rfl false ⟨#[], #[.slice none 0 0], []⟩ 8 (by kernel_rfl) (by kernel_rfl) (by kernel_rfl)
      (x := ([.nil], [], [])) (by kernel_rfl) rfl (by kernel_rfl)) ?_
  intro W base args ds gs before hval hW _ hk _
  exact contract H enc W base args ds gs before hval hW hk

theorem over : Rows.playComesBackUptoRow.holds Try.pinned (Rows.OpenSpec.upto Rows.playComesBackSpec) :=
  OpenClaim.holds_of_cond 7 Try.f7 rfl rfl rfl rfl rfl rfl rfl ⟨rfl, rfl, rfl, rfl, rfl⟩ rfl rfl rfl rfl rfl (by kernel_rfl) Try.func7 (by kernel_rfl)
    (of_decide_eq_true (by kernel_rfl)) (by unfold Func.isWrapper; first | (rw [if_pos (by decide +kernel)]; kernel_rfl) | (rw [if_neg (by decide +kernel)]; exact ⟨rfl, rfl⟩))
    (fun os started H enc _ F => lifted os started H enc F)

theorem proved : Rows.PlayComesBackUptoSaid := over
#print axioms proved
end Go.Proofs.Ytnpmkaklkonofaa.playComesBack
namespace Go.Proofs.Ytnpmkaklkonofaa
/-- The row, under a short name, for the claim. -/
theorem playComesBackUpto_holds : Rows.PlayComesBackUptoSaid := playComesBack.proved
end Go.Proofs.Ytnpmkaklkonofaa
