/- What the reading of a row gives: its elements, and what they weigh. -/
import Derived.Test.YtnpmkaklkonofaaRows
import Derived.Test.YtnpmkaklkonofaaGBack
import Derived.Deep.Slices
import Derived.Lib.SmallJoins
set_option linter.unusedVariables false
set_option linter.unusedSimpArgs false
namespace Go.Proofs.Ytnpmkaklkonofaa.Txt
open Go.RowKit Go.Proofs.YtnpmkaklkonofaaW.PrintWords Go.Proofs.YtnpmkaklkonofaaW.PrintLast Go.Proofs.Ytnpmkaklkonofaa.Hand Go.Proofs.Ytnpmkaklkonofaa.Q Go.Deep

theorem bulk_one {H : Type} (d : DataW H) : 1 ≤ Rows.uptoBulk d := by
  cases d with
  | lit l => cases l <;> simp [Rows.uptoBulk]
  | _ => simp [Rows.uptoBulk]
theorem bulk_app {H : Type} (l r : List (DataW H)) : Rows.uptoBulkAll (l ++ r) = Rows.uptoBulkAll l + Rows.uptoBulkAll r := by
  induction l with
  | nil => simp [Rows.uptoBulkAll]
  | cons x l ih => simp only [List.cons_append, Rows.uptoBulkAll, ih]; omega

section
variable {H : Type} {enc : TypeId × Value → H} {W : World} {sp : Nat → Bool}

/-- A row, of whose elements is known what each one's reading gives. -/
theorem row_of {α : Type} (d : Kd α) (B : α → Nat) (Ok : α → Prop) {t e : TypeId} {fuel : Nat} {cs : List Value} {x : DataW H × List MemPlace} (ht : Try.prog.underlying t = some (.slice e)) (hsz : Try.prog.cellsOf e = d.sz)
    (h : DataW.trod enc Try.prog W 0 sp true fuel t cs = some x)
    (hel : ∀ n cs' y, DataW.trod enc Try.prog W 0 sp true n e cs' = some y → ∃ p, d.K W p cs' ∧ Ok p ∧ B p ≤ Rows.uptoBulk y.1) :
    ∃ (A : Option Addr) (cap : Nat) (xs : List α), cs = [.slice A xs.length cap] ∧ xs.length ≤ cap ∧ d.C W A xs.length xs ∧ (∀ p ∈ xs, Ok p) ∧ (xs.map B).sum + 1 ≤ Rows.uptoBulk x.1 ∧ xs.length + 1 ≤ Rows.uptoBulk x.1 := by
  rcases open_slice ht h with ⟨rfl, rfl⟩ | ⟨a, len, cap, m, n, D, Pl, rfl, hb, hl, hm, hmm, rfl, hx⟩
  · exact ⟨none, 0, [], rfl, Nat.le_refl _, ⟨rfl, Nat.zero_le _, fun h => absurd h (by simp)⟩, by simp, by simp [Rows.uptoBulk], by simp [Rows.uptoBulk]⟩
  · have hlm : len ≤ m := by rw [hmm]; split <;> omega
    have build : ∀ k, k ≤ len → ∃ xs : List α, xs.length = k ∧ (∀ p ∈ xs, Ok p) ∧ (xs.map B).sum ≤ Rows.uptoBulkAll ((List.range k).map D) ∧ k ≤ Rows.uptoBulkAll ((List.range k).map D) ∧
        ∀ i p, xs[i]? = some p → ∃ cs', W.cells? 0 (a.add (i * d.sz)) d.sz = some cs' ∧ d.K W p cs' := by
      intro k
      induction k with
      | zero => intro _; exact ⟨[], rfl, by simp, by simp, by omega, by simp⟩
      | succ k ih =>
        intro hk
        obtain ⟨xs, hlx, hok, hbs, hkk, hcs⟩ := ih (by omega)
        obtain ⟨cs', h1, h2⟩ := hx k (by omega)
        obtain ⟨p, hK, hO, hBp⟩ := hel n cs' _ h2
        have hone := bulk_one (D k)
        refine ⟨xs ++ [p], by simp [hlx], ?_, ?_, ?_, ?_⟩
        · intro q hq
          rcases List.mem_append.1 hq with hq | hq
          · exact hok q hq
          · rw [List.mem_singleton.1 hq]; exact hO
        · rw [List.range_succ, List.map_append, List.map_append, bulk_app, List.sum_append]
          simp only [List.map_cons, List.map_nil, List.sum_cons, List.sum_nil, Rows.uptoBulkAll]
          have hBp' : B p ≤ Rows.uptoBulk (D k) := hBp
          omega
        · rw [List.range_succ, List.map_append, bulk_app]
          simp only [List.map_cons, List.map_nil, Rows.uptoBulkAll]
          omega
        · intro i q hq
          by_cases hi : i < xs.length
          · rw [List.getElem?_append_left hi] at hq
            exact hcs i q hq
          · have hil : i < (xs ++ [p]).length := (List.getElem?_eq_some_iff.1 hq).1
            simp only [List.length_append, List.length_singleton] at hil
            obtain rfl : i = k := by omega
            rw [List.getElem?_append_right (by omega), hlx, Nat.sub_self] at hq
            simp only [List.getElem?_cons_zero, Option.some.injEq] at hq
            subst hq
            rw [hsz] at h1
            exact ⟨cs', h1, hK⟩
    obtain ⟨xs, hlx, hok, hbs, hkk, hcs⟩ := build len (Nat.le_refl _)
    have hw : Rows.uptoBulk (.slice ((List.range len).map D) ((List.range (m - len)).map fun j => D (len + j))) = Rows.uptoBulkAll ((List.range len).map D) + Rows.uptoBulkAll ((List.range (m - len)).map fun j => D (len + j)) + 1 := by simp [Rows.uptoBulk]
    subst hlx
    refine ⟨some a, cap, xs, rfl, hl, ⟨rfl, by unfold maxLen at hm; omega, fun _ => ⟨a, rfl, fun j p hj => ?_⟩⟩, hok, ?_, ?_⟩
    · obtain ⟨cs', h1, hK⟩ := hcs j p hj
      refine ⟨cs', d.K_len hK, hK, fun i u hu => ?_⟩
      have hi : i < cs'.length := (List.getElem?_eq_some_iff.1 hu).1
      rw [d.K_len hK] at hi
      rw [← Deep.add_add, (World.cells?_some h1).2.2 i hi]
      exact hu
    · show _ ≤ Rows.uptoBulk _
      rw [hw]; omega
    · show _ ≤ Rows.uptoBulk _
      rw [hw]; omega

theorem cells3' : Try.prog.cellsOf 3 = 1 := by kernel_rfl
theorem cells9' : Try.prog.cellsOf 9 = 1 := by kernel_rfl
theorem cellsO' : Try.prog.cellsOf 50 = 6 := by kernel_rfl
theorem cellsSt' : Try.prog.cellsOf 52 = 9 := by kernel_rfl
theorem cellsI' : Try.prog.cellsOf 27 = 1 := by kernel_rfl
theorem cellsS' : Try.prog.cellsOf 28 = 1 := by kernel_rfl

theorem ints_of {fuel : Nat} {cs : List Value} {x : DataW H × List MemPlace} (h : DataW.trod enc Try.prog W 0 sp true fuel 27 cs = some x) :
    ∃ (A : Option Addr) (cap : Nat) (xs : List Int), cs = [.slice A xs.length cap] ∧ xs.length ≤ cap ∧ Kd.C (Kd.int .i64) W A xs.length xs ∧ (∀ p ∈ xs, inI64 p = true) ∧ (xs.map fun _ => 0).sum + 1 ≤ Rows.uptoBulk x.1 ∧ xs.length + 1 ≤ Rows.uptoBulk x.1 := by
  refine row_of (Kd.int .i64) (fun _ => 0) (fun p => inI64 p = true) Try.underlying27 cells3' h ?_
  intro n cs' y hy
  obtain ⟨p, rfl, rfl, hw⟩ := DataW.trod_int Try.underlying3 hy
  refine ⟨p, rfl, ?_, Nat.zero_le _⟩
  have : -9223372036854775808 ≤ p ∧ p ≤ 9223372036854775807 := by simpa [Lit.wf, IntKind.min, IntKind.max, IntKind.signed, IntKind.bits] using hw
  simpa [inI64] using this
theorem strings_of {fuel : Nat} {cs : List Value} {x : DataW H × List MemPlace} (h : DataW.trod enc Try.prog W 0 sp true fuel 28 cs = some x) :
    ∃ (A : Option Addr) (cap : Nat) (xs : List ByteArray), cs = [.slice A xs.length cap] ∧ xs.length ≤ cap ∧ Kd.C Kd.string W A xs.length xs ∧ (∀ p ∈ xs, True) ∧ (xs.map fun s => s.size + 1).sum + 1 ≤ Rows.uptoBulk x.1 ∧ xs.length + 1 ≤ Rows.uptoBulk x.1 := by
  refine row_of Kd.string (fun s => s.size + 1) (fun _ => True) Try.underlying28 cells9' h ?_
  intro n cs' y hy
  obtain ⟨p, rfl, rfl, _⟩ := DataW.trod_string Try.underlying9 hy
  refine ⟨p, rfl, trivial, ?_⟩
  show _ ≤ Rows.uptoBulk (DataW.lit (.string p.data.toList))
  simp only [Rows.uptoBulk, Array.length_toList]
  exact Nat.le_refl _

/-- What a step weighs. -/
def stepB (s : S52) : Nat := s.f1.length + (s.f2.map fun x => x.size + 1).sum + 1
def stepOk (s : S52) : Prop := (∀ p ∈ s.f1, inI64 p = true) ∧ ∀ p ∈ optsOf s, inI64 p = true

theorem int_of {fuel : Nat} {cs : List Value} {x : DataW H × List MemPlace} (h : DataW.trod enc Try.prog W 0 sp true fuel 3 cs = some x) : ∃ p, cs = [.int .i64 p] ∧ inI64 p = true := by
  obtain ⟨p, rfl, rfl, hw⟩ := DataW.trod_int Try.underlying3 h
  refine ⟨p, rfl, ?_⟩
  have : -9223372036854775808 ≤ p ∧ p ≤ 9223372036854775807 := by simpa [Lit.wf, IntKind.min, IntKind.max, IntKind.signed, IntKind.bits] using hw
  simpa [inI64] using this

set_option maxRecDepth 100000 in
theorem opts_of {fuel : Nat} {cs : List Value} {x : DataW H × List MemPlace} (h : DataW.trod enc Try.prog W 0 sp true fuel 50 cs = some x) :
    ∃ o : S50, cs = [.int .i64 o.f0, .int .i64 o.f1, .int .i64 o.f2, .int .i64 o.f3, .int .i64 o.f4, .int .i64 o.f5] ∧ ∀ p ∈ [o.f0, o.f1, o.f2, o.f3, o.f4, o.f5], inI64 p = true := by
  obtain ⟨xs, n, _, rfl, hl, hlen, hf⟩ := DataW.trod_struct Try.underlying50 h
  rw [cellsO'] at hl
  match xs, hlen with
  | [y0, y1, y2, y3, y4, y5], _ =>
    match cs, hl with
    | [c0, c1, c2, c3, c4, c5], _ =>
      have t0 := hf 0 _ rfl
      have t1 := hf 1 _ rfl
      have t2 := hf 2 _ rfl
      have t3 := hf 3 _ rfl
      have t4 := hf 4 _ rfl
      have t5 := hf 5 _ rfl
      replace t0 : DataW.trod enc Try.prog W 0 sp true n 3 [c0] = some y0 := by simpa [cells3'] using t0
      replace t1 : DataW.trod enc Try.prog W 0 sp true n 3 [c1] = some y1 := by simpa [cells3'] using t1
      replace t2 : DataW.trod enc Try.prog W 0 sp true n 3 [c2] = some y2 := by simpa [cells3'] using t2
      replace t3 : DataW.trod enc Try.prog W 0 sp true n 3 [c3] = some y3 := by simpa [cells3'] using t3
      replace t4 : DataW.trod enc Try.prog W 0 sp true n 3 [c4] = some y4 := by simpa [cells3'] using t4
      replace t5 : DataW.trod enc Try.prog W 0 sp true n 3 [c5] = some y5 := by simpa [cells3'] using t5
      obtain ⟨p0, e0, w0⟩ := int_of t0
      obtain ⟨p1, e1, w1⟩ := int_of t1
      obtain ⟨p2, e2, w2⟩ := int_of t2
      obtain ⟨p3, e3, w3⟩ := int_of t3
      obtain ⟨p4, e4, w4⟩ := int_of t4
      obtain ⟨p5, e5, w5⟩ := int_of t5
      simp only [List.cons.injEq, and_true] at e0 e1 e2 e3 e4 e5
      subst e0 e1 e2 e3 e4 e5
      refine ⟨⟨p0, p1, p2, p3, p4, p5⟩, rfl, ?_⟩
      intro p hp
      simp only [List.mem_cons, List.not_mem_nil, or_false] at hp
      rcases hp with rfl | rfl | rfl | rfl | rfl | rfl <;> assumption

set_option maxRecDepth 100000 in
theorem step_of {fuel : Nat} {cs : List Value} {x : DataW H × List MemPlace} (h : DataW.trod enc Try.prog W 0 sp true fuel 52 cs = some x) :
    ∃ s : S52, k52.K W s cs ∧ stepOk s ∧ stepB s ≤ Rows.uptoBulk x.1 := by
  obtain ⟨y0, y1, y2, y3, n, rfl, hl, t0, t1, t2, t3⟩ := Go.Joins.trod_struct4 Try.underlying52 h
  rw [cellsSt'] at hl
  match cs, hl with
  | [c0, c1, c2, c3, c4, c5, c6, c7, c8], _ =>
    simp only [cells3', cellsI', cellsS', cellsO', List.drop, List.take] at t0 t1 t2 t3
    obtain ⟨p0, e0, -⟩ := int_of t0
    obtain ⟨A1, k1, N, e1, l1, g1, w1, b1, b1'⟩ := ints_of t1
    obtain ⟨A2, k2, S, e2, l2, g2, -, b2, b2'⟩ := strings_of t2
    obtain ⟨o, e3, w3⟩ := opts_of t3
    simp only [List.cons.injEq, and_true] at e0 e1 e2 e3
    obtain ⟨e31, e32, e33, e34, e35, e36⟩ := e3
    subst e0 e1 e2 e31 e32 e33 e34 e35 e36
    refine ⟨⟨p0, N, S, o⟩, k52_mk W ⟨p0, N, S, o⟩ l1 g1 l2 g2, ⟨w1, w3⟩, ?_⟩
    show stepB _ ≤ Rows.uptoBulk (DataW.agg _)
    have h3 := bulk_one y3.1
    simp only [Rows.uptoBulk, Rows.uptoBulkAll, stepB]
    omega
end
end Go.Proofs.Ytnpmkaklkonofaa.Txt


/- Plain: what a step weighs, and what follows. -/
namespace Go.Proofs.Ytnpmkaklkonofaa.Txt
open Go.Proofs.Ytnpmkaklkonofaa.Hand Go.Proofs.Ytnpmkaklkonofaa.Q

theorem sum_split (l : List ByteArray) : (l.map fun x => x.size + 1).sum = (l.map (·.size)).sum + l.length := by
  induction l with
  | nil => rfl
  | cons x r ih => simp only [List.map_cons, List.sum_cons, List.length_cons, ih]; omega
theorem mem_sum (l : List ByteArray) {x : ByteArray} (h : x ∈ l) : x.size ≤ (l.map (·.size)).sum := by
  induction l with
  | nil => cases h
  | cons y r ih =>
    simp only [List.map_cons, List.sum_cons]
    rcases List.mem_cons.1 h with rfl | h
    · omega
    · have := ih h; omega
theorem okStep_of {s : S52} (h : stepOk s) (hb : stepB s ≤ 1048576) : okStep s = true := by
  unfold stepB at hb
  rw [sum_split] at hb
  simp only [okStep, Bool.and_eq_true, decide_eq_true_eq, List.all_eq_true]
  refine ⟨⟨⟨⟨by omega, by omega⟩, h.1⟩, h.2⟩, fun x hx => ?_⟩
  have := mem_sum s.f2 hx
  omega

theorem mem_stepB (l : List S52) {s : S52} (h : s ∈ l) : stepB s ≤ (l.map stepB).sum := by
  induction l with
  | nil => cases h
  | cons y r ih =>
    simp only [List.map_cons, List.sum_cons]
    rcases List.mem_cons.1 h with rfl | h
    · omega
    · have := ih h; omega
end Go.Proofs.Ytnpmkaklkonofaa.Txt
