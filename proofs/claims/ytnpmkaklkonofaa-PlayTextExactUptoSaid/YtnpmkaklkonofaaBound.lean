/- Plain: how long a script may be. -/
import Derived.Test.YtnpmkaklkonofaaOpen
namespace Go.Proofs.Ytnpmkaklkonofaa.Txt
open Go.Proofs.Ytnpmkaklkonofaa.Hand Go.Proofs.Ytnpmkaklkonofaa.Q

theorem sum_split (l : List ByteArray) : (l.map fun x => x.size + 1).sum = (l.map (·.size)).sum + l.length := by
  induction l with
  | nil => rfl
  | cons x r ih => simp only [List.map_cons, List.sum_cons, List.length_cons, ih]; omega
theorem sum_take (l : List ByteArray) (k : Nat) : ((l.take k).map (·.size)).sum ≤ (l.map (·.size)).sum := by
  have h : (l.map (·.size)).sum = ((l.take k).map (·.size)).sum + ((l.drop k).map (·.size)).sum := by
    rw [← List.sum_append, ← List.map_append, List.take_append_drop]
  omega
theorem mem_sum (l : List ByteArray) {x : ByteArray} (h : x ∈ l) : x.size ≤ (l.map (·.size)).sum := by
  induction l with
  | nil => cases h
  | cons y r ih =>
    simp only [List.map_cons, List.sum_cons]
    rcases List.mem_cons.1 h with rfl | h
    · omega
    · have := ih h; omega
theorem textsL_len (S : List ByteArray) : ∀ k, (textsL S k).length ≤ 2 * k + 3 * ((S.take k).map (·.size)).sum
  | 0 => by simp [textsL]
  | k + 1 => by
    have ih := textsL_len S k
    have he := escL_len (S.getD k ByteArray.empty).data.toList
    rw [textsL, List.length_append, List.length_cons]
    by_cases hk : k < S.length
    · rw [List.take_succ_eq_append_getElem hk, List.map_append, List.sum_append]
      have e : S.getD k ByteArray.empty = S[k] := by rw [List.getD_eq_getElem?_getD, List.getElem?_eq_getElem hk]; rfl
      rw [e] at he ⊢
      simp only [List.map_cons, List.map_nil, List.sum_cons, List.sum_nil]
      have e2 : (S[k]).data.toList.length = (S[k]).size := Array.length_toList
      rw [e2] at he
      omega
    · have e : S.getD k ByteArray.empty = ByteArray.empty := by rw [List.getD_eq_getElem?_getD, List.getElem?_eq_none (by omega)]; rfl
      rw [e] at he ⊢
      rw [List.take_of_length_le (by omega)]
      rw [List.take_of_length_le (by omega)] at ih
      have e2 : (ByteArray.empty).data.toList.length = 0 := rfl
      rw [e2] at he
      omega

theorem okStep_of {s : S52} (h : stepOk s) (hb : stepB s ≤ 1048576) : okStep s = true := by
  unfold stepB at hb
  rw [sum_split] at hb
  simp only [okStep, Bool.and_eq_true, decide_eq_true_eq, List.all_eq_true]
  refine ⟨⟨⟨⟨by omega, by omega⟩, h.1⟩, h.2⟩, fun x hx => ?_⟩
  have := mem_sum s.f2 hx
  omega

theorem stepLine_len {s : S52} (h : stepOk s) (hb : stepB s ≤ 1048576) : (stepLine s).length ≤ 1000 * stepB s := by
  have hok := okStep_spec (okStep_of h hb)
  obtain ⟨k1, k2, k3, k4, k5⟩ := hok
  unfold stepLine
  by_cases hk : 1 ≤ s.f0 ∧ s.f0 < 35
  · rw [if_pos hk]
    obtain ⟨wd, nn, ss, mo, oo, hrow, hoo, hnn, hss, hwd, hl⟩ := row_line s.f0.toNat (by omega) (by omega)
    rw [hl s.f1 s.f2 (optsOf s) rfl]
    unfold lineB stepB
    rw [sum_split]
    simp only [List.length_append, List.length_singleton]
    have hO : ∀ i, -9223372036854775808 ≤ (optsOf s).getD i 0 ∧ (optsOf s).getD i 0 ≤ 9223372036854775807 := by
      intro i
      rw [List.getD_eq_getElem?_getD]
      cases hi : (optsOf s)[i]? with
      | none => exact ⟨by decide, by decide⟩
      | some y => exact k4 y (List.mem_of_getElem? hi)
    have hn : (numsL (if oo = true then optsOf s else s.f1) (if oo = true then (if mo = 1 then max 6 6 else 6) else if mo = 1 then max nn s.f1.length else nn)).length ≤ 21 * (10 + s.f1.length) := by
      cases oo with
      | true =>
        simp only [if_true]
        refine Nat.le_trans (numsL_len _ hO _) ?_
        split <;> omega
      | false =>
        simp only [Bool.false_eq_true, if_false]
        refine Nat.le_trans (numsL_len _ k3 _) ?_
        split <;> omega
    have ht := textsL_len s.f2 (if mo = 2 then max ss s.f2.length else ss)
    have ht2 := sum_take s.f2 (if mo = 2 then max ss s.f2.length else ss)
    have hk3 : (if mo = 2 then max ss s.f2.length else ss) ≤ 10 + s.f2.length := by split <;> omega
    have hw : wd.data.toList.length = wd.size := Array.length_toList
    omega
  · rw [if_neg hk]; simp

theorem textL_len (l : List S52) (h : ∀ s ∈ l, stepOk s) (hb : ∀ s ∈ l, stepB s ≤ 1048576) : (textL l).length ≤ 1000 * (l.map stepB).sum := by
  induction l with
  | nil => simp [textL]
  | cons s r ih =>
    have h1 := ih (fun x hx => h x (List.mem_cons_of_mem _ hx)) (fun x hx => hb x (List.mem_cons_of_mem _ hx))
    have h2 := stepLine_len (h s List.mem_cons_self) (hb s List.mem_cons_self)
    simp only [textL, List.flatMap_cons, List.length_append, List.map_cons, List.sum_cons] at h1 ⊢
    omega
theorem mem_stepB (l : List S52) {s : S52} (h : s ∈ l) : stepB s ≤ (l.map stepB).sum := by
  induction l with
  | nil => cases h
  | cons y r ih =>
    simp only [List.map_cons, List.sum_cons]
    rcases List.mem_cons.1 h with rfl | h
    · omega
    · have := ih h; omega

end Go.Proofs.Ytnpmkaklkonofaa.Txt
