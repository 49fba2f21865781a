/- Plain: of each kind the document's own line is the step's line. -/
import Derived.Test.YtnpmkaklkonofaaLine
namespace Go.Proofs.Ytnpmkaklkonofaa.Txt
open Go.Proofs.Ytnpmkaklkonofaa.Hand Go.Proofs.Ytnpmkaklkonofaa.Q

theorem joinL_cons (x : ByteArray) (r : List ByteArray) : joinL (x :: r) ⟨#[32]⟩ = x.data.toList ++ r.flatMap (fun y => 32 :: y.data.toList) := by
  unfold joinL
  rw [List.map_cons, Lib.join_cons, Lib.joinTail, List.flatMap]
  congr 2
  rw [List.map_map]
  rfl
theorem flat_dec (l : List Int) : (l.map decB).flatMap (fun y => 32 :: y.data.toList) = l.flatMap (fun v => 32 :: decL v) := by
  rw [List.flatMap_map]; rfl
theorem flat_esc (l : List ByteArray) : (l.map escB).flatMap (fun y => 32 :: y.data.toList) = l.flatMap (fun v => 32 :: escL v.data.toList) := by
  rw [List.flatMap_map]; rfl
theorem numsL_take (ns : List Int) : ∀ k, k ≤ ns.length → numsL ns k = (ns.take k).flatMap (fun v => 32 :: decL v)
  | 0, _ => by simp [numsL]
  | k + 1, h => by
    rw [numsL, numsL_take ns k (by omega), List.take_succ_eq_append_getElem (by omega), List.flatMap_append]
    congr 1
    rw [List.getD_eq_getElem?_getD, List.getElem?_eq_getElem (by omega)]
    simp
theorem textsL_take (S : List ByteArray) : ∀ k, k ≤ S.length → textsL S k = (S.take k).flatMap (fun v => 32 :: escL v.data.toList)
  | 0, _ => by simp [textsL]
  | k + 1, h => by
    rw [textsL, textsL_take S k (by omega), List.take_succ_eq_append_getElem (by omega), List.flatMap_append]
    congr 1
    rw [List.getD_eq_getElem?_getD, List.getElem?_eq_getElem (by omega)]
    simp
theorem numsL_max (ns : List Int) (k : Nat) : numsL ns (max k ns.length) = numsL ns k ++ (ns.drop k).flatMap (fun v => 32 :: decL v) := by
  by_cases h : k ≤ ns.length
  · rw [Nat.max_eq_right h, numsL_take ns k h, numsL_take ns _ (Nat.le_refl _), List.take_length, ← List.flatMap_append, List.take_append_drop]
  · rw [Nat.max_eq_left (by omega), List.drop_eq_nil_of_le (by omega)]; simp
theorem textsL_max (S : List ByteArray) (k : Nat) : textsL S (max k S.length) = textsL S k ++ (S.drop k).flatMap (fun v => 32 :: escL v.data.toList) := by
  by_cases h : k ≤ S.length
  · rw [Nat.max_eq_right h, textsL_take S k h, textsL_take S _ (Nat.le_refl _), List.take_length, ← List.flatMap_append, List.take_append_drop]
  · rw [Nat.max_eq_left (by omega), List.drop_eq_nil_of_le (by omega)]; simp

/-- The document's line. -/
def lineB (wd : ByteArray) (nn ss mo : Nat) (oo : Bool) (N : List Int) (S : List ByteArray) (o : List Int) : List UInt8 :=
  wd.data.toList ++ numsL (if oo = true then o else N) (if oo = true then (if mo = 1 then max 6 6 else 6) else if mo = 1 then max nn N.length else nn) ++ textsL S (if mo = 2 then max ss S.length else ss) ++ [10]

theorem pat_o (word : List UInt8) (N : List Int) (S : List ByteArray) (o : List Int) (ho : o.length = 6) : joinL (wordsOf word [111] N S o).out ⟨#[32]⟩ ++ [10] = lineB ⟨word.toArray⟩ 0 0 0 true N S o := by
  unfold lineB wordsOf
  simp only [List.foldl_cons, List.foldl_nil, if_true, if_false, if_pos, Bool.false_eq_true, Nat.reduceEqDiff, reduceCtorEq]
  rw [show numsL o 6 = o.flatMap (fun v => 32 :: decL v) by rw [← ho, numsL_take o _ (Nat.le_refl _), List.take_length]]
  simp [wstep, joinL_cons, numsL, textsL, List.flatMap_map, decB, escB, List.flatMap_append]
theorem pat_0 (word : List UInt8) (N : List Int) (S : List ByteArray) (o : List Int) (ho : o.length = 6) : joinL (wordsOf word [] N S o).out ⟨#[32]⟩ ++ [10] = lineB ⟨word.toArray⟩ 0 0 0 false N S o := by
  unfold lineB wordsOf
  simp only [List.foldl_cons, List.foldl_nil, if_true, if_false, if_pos, Bool.false_eq_true, Nat.reduceEqDiff, reduceCtorEq]
  simp [wstep, joinL_cons, numsL, textsL, List.flatMap_map, decB, escB, List.flatMap_append]
theorem pat_S (word : List UInt8) (N : List Int) (S : List ByteArray) (o : List Int) (ho : o.length = 6) : joinL (wordsOf word [83] N S o).out ⟨#[32]⟩ ++ [10] = lineB ⟨word.toArray⟩ 0 0 2 false N S o := by
  unfold lineB wordsOf
  simp only [List.foldl_cons, List.foldl_nil, if_true, if_false, if_pos, Bool.false_eq_true, Nat.reduceEqDiff, reduceCtorEq]
  rw [textsL_max]
  simp [wstep, joinL_cons, numsL, textsL, List.flatMap_map, decB, escB, List.flatMap_append]
theorem pat_n (word : List UInt8) (N : List Int) (S : List ByteArray) (o : List Int) (ho : o.length = 6) : joinL (wordsOf word [110] N S o).out ⟨#[32]⟩ ++ [10] = lineB ⟨word.toArray⟩ 1 0 0 false N S o := by
  unfold lineB wordsOf
  simp only [List.foldl_cons, List.foldl_nil, if_true, if_false, if_pos, Bool.false_eq_true, Nat.reduceEqDiff, reduceCtorEq]
  simp [wstep, joinL_cons, numsL, textsL, List.flatMap_map, decB, escB, List.flatMap_append]
theorem pat_nn (word : List UInt8) (N : List Int) (S : List ByteArray) (o : List Int) (ho : o.length = 6) : joinL (wordsOf word [110, 110] N S o).out ⟨#[32]⟩ ++ [10] = lineB ⟨word.toArray⟩ 2 0 0 false N S o := by
  unfold lineB wordsOf
  simp only [List.foldl_cons, List.foldl_nil, if_true, if_false, if_pos, Bool.false_eq_true, Nat.reduceEqDiff, reduceCtorEq]
  simp [wstep, joinL_cons, numsL, textsL, List.flatMap_map, decB, escB, List.flatMap_append]
theorem pat_N (word : List UInt8) (N : List Int) (S : List ByteArray) (o : List Int) (ho : o.length = 6) : joinL (wordsOf word [110, 110, 110, 110, 78] N S o).out ⟨#[32]⟩ ++ [10] = lineB ⟨word.toArray⟩ 4 0 1 false N S o := by
  unfold lineB wordsOf
  simp only [List.foldl_cons, List.foldl_nil, if_true, if_false, if_pos, Bool.false_eq_true, Nat.reduceEqDiff, reduceCtorEq]
  rw [numsL_max]
  simp [wstep, joinL_cons, numsL, textsL, List.flatMap_map, decB, escB, List.flatMap_append]
  rw [show List.drop 4 (List.map decB N) = (N.drop 4).map decB from List.map_drop.symm, flat_dec]
theorem pat_s (word : List UInt8) (N : List Int) (S : List ByteArray) (o : List Int) (ho : o.length = 6) : joinL (wordsOf word [115] N S o).out ⟨#[32]⟩ ++ [10] = lineB ⟨word.toArray⟩ 0 1 0 false N S o := by
  unfold lineB wordsOf
  simp only [List.foldl_cons, List.foldl_nil, if_true, if_false, if_pos, Bool.false_eq_true, Nat.reduceEqDiff, reduceCtorEq]
  simp [wstep, joinL_cons, numsL, textsL, List.flatMap_map, decB, escB, List.flatMap_append]
theorem pat_nss (word : List UInt8) (N : List Int) (S : List ByteArray) (o : List Int) (ho : o.length = 6) : joinL (wordsOf word [110, 115, 115] N S o).out ⟨#[32]⟩ ++ [10] = lineB ⟨word.toArray⟩ 1 2 0 false N S o := by
  unfold lineB wordsOf
  simp only [List.foldl_cons, List.foldl_nil, if_true, if_false, if_pos, Bool.false_eq_true, Nat.reduceEqDiff, reduceCtorEq]
  simp [wstep, joinL_cons, numsL, textsL, List.flatMap_map, decB, escB, List.flatMap_append]
theorem pat_ns (word : List UInt8) (N : List Int) (S : List ByteArray) (o : List Int) (ho : o.length = 6) : joinL (wordsOf word [110, 115] N S o).out ⟨#[32]⟩ ++ [10] = lineB ⟨word.toArray⟩ 1 1 0 false N S o := by
  unfold lineB wordsOf
  simp only [List.foldl_cons, List.foldl_nil, if_true, if_false, if_pos, Bool.false_eq_true, Nat.reduceEqDiff, reduceCtorEq]
  simp [wstep, joinL_cons, numsL, textsL, List.flatMap_map, decB, escB, List.flatMap_append]

theorem row_line (x : Nat) (h1 : 1 ≤ x) (h2 : x < 35) : ∃ (wd : ByteArray) (nn ss mo : Nat) (oo : Bool), annalsref30_row.f (x : Int) = some (wd, (nn : Int), (ss : Int), (mo : Int), oo) ∧ (oo = true → mo = 0) ∧ nn ≤ 10 ∧ ss ≤ 10 ∧ wd.size ≤ 100 ∧
    ∀ N S (o : List Int), o.length = 6 → joinL (stepWords x N S o) ⟨#[32]⟩ ++ [10] = lineB wd nn ss mo oo N S o := by
  match x, h1, h2 with
  | 1, _, _ => exact ⟨⟨#[99, 114, 101, 97, 116, 101]⟩, 0, 0, 0, true, by kernel_rfl, by decide, by decide, by decide, by decide, fun N S o ho => pat_o _ N S o ho⟩
  | 2, _, _ => exact ⟨⟨#[111, 112, 101, 110]⟩, 0, 0, 0, false, by kernel_rfl, by decide, by decide, by decide, by decide, fun N S o ho => pat_0 _ N S o ho⟩
  | 3, _, _ => exact ⟨⟨#[97, 112, 112, 101, 110, 100]⟩, 0, 0, 2, false, by kernel_rfl, by decide, by decide, by decide, by decide, fun N S o ho => pat_S _ N S o ho⟩
  | 4, _, _ => exact ⟨⟨#[115, 105, 122, 101]⟩, 0, 0, 0, false, by kernel_rfl, by decide, by decide, by decide, by decide, fun N S o ho => pat_0 _ N S o ho⟩
  | 5, _, _ => exact ⟨⟨#[108, 101, 97, 102]⟩, 1, 0, 0, false, by kernel_rfl, by decide, by decide, by decide, by decide, fun N S o ho => pat_n _ N S o ho⟩
  | 6, _, _ => exact ⟨⟨#[108, 101, 97, 118, 101, 115]⟩, 2, 0, 0, false, by kernel_rfl, by decide, by decide, by decide, by decide, fun N S o ho => pat_nn _ N S o ho⟩
  | 7, _, _ => exact ⟨⟨#[114, 111, 111, 116]⟩, 1, 0, 0, false, by kernel_rfl, by decide, by decide, by decide, by decide, fun N S o ho => pat_n _ N S o ho⟩
  | 8, _, _ => exact ⟨⟨#[112, 114, 111, 118, 101]⟩, 4, 0, 1, false, by kernel_rfl, by decide, by decide, by decide, by decide, fun N S o ho => pat_N _ N S o ho⟩
  | 9, _, _ => exact ⟨⟨#[116, 105, 108, 101]⟩, 0, 1, 0, false, by kernel_rfl, by decide, by decide, by decide, by decide, fun N S o ho => pat_s _ N S o ho⟩
  | 10, _, _ => exact ⟨⟨#[115, 121, 110, 99]⟩, 0, 0, 0, false, by kernel_rfl, by decide, by decide, by decide, by decide, fun N S o ho => pat_0 _ N S o ho⟩
  | 11, _, _ => exact ⟨⟨#[99, 104, 101, 99, 107, 112, 111, 105, 110, 116]⟩, 0, 0, 2, false, by kernel_rfl, by decide, by decide, by decide, by decide, fun N S o ho => pat_S _ N S o ho⟩
  | 12, _, _ => exact ⟨⟨#[98, 101, 103, 105, 110]⟩, 0, 0, 0, true, by kernel_rfl, by decide, by decide, by decide, by decide, fun N S o ho => pat_o _ N S o ho⟩
  | 13, _, _ => exact ⟨⟨#[109, 111, 118, 101]⟩, 1, 0, 0, false, by kernel_rfl, by decide, by decide, by decide, by decide, fun N S o ho => pat_n _ N S o ho⟩
  | 14, _, _ => exact ⟨⟨#[99, 97, 110, 99, 101, 108]⟩, 0, 0, 0, false, by kernel_rfl, by decide, by decide, by decide, by decide, fun N S o ho => pat_0 _ N S o ho⟩
  | 15, _, _ => exact ⟨⟨#[115, 101, 101, 110]⟩, 0, 0, 0, false, by kernel_rfl, by decide, by decide, by decide, by decide, fun N S o ho => pat_0 _ N S o ho⟩
  | 16, _, _ => exact ⟨⟨#[117, 115, 97, 103, 101]⟩, 0, 0, 0, false, by kernel_rfl, by decide, by decide, by decide, by decide, fun N S o ho => pat_0 _ N S o ho⟩
  | 17, _, _ => exact ⟨⟨#[97, 114, 109]⟩, 1, 0, 0, false, by kernel_rfl, by decide, by decide, by decide, by decide, fun N S o ho => pat_n _ N S o ho⟩
  | 18, _, _ => exact ⟨⟨#[99, 114, 97, 115, 104]⟩, 0, 1, 0, false, by kernel_rfl, by decide, by decide, by decide, by decide, fun N S o ho => pat_s _ N S o ho⟩
  | 19, _, _ => exact ⟨⟨#[99, 104, 101, 99, 107]⟩, 0, 0, 0, false, by kernel_rfl, by decide, by decide, by decide, by decide, fun N S o ho => pat_0 _ N S o ho⟩
  | 20, _, _ => exact ⟨⟨#[114, 101, 112, 97, 105, 114]⟩, 0, 0, 0, false, by kernel_rfl, by decide, by decide, by decide, by decide, fun N S o ho => pat_0 _ N S o ho⟩
  | 21, _, _ => exact ⟨⟨#[115, 117, 98, 109, 105, 116]⟩, 1, 2, 0, false, by kernel_rfl, by decide, by decide, by decide, by decide, fun N S o ho => pat_nss _ N S o ho⟩
  | 22, _, _ => exact ⟨⟨#[112, 108, 97, 99, 101]⟩, 2, 0, 0, false, by kernel_rfl, by decide, by decide, by decide, by decide, fun N S o ho => pat_nn _ N S o ho⟩
  | 23, _, _ => exact ⟨⟨#[102, 105, 110, 100]⟩, 0, 1, 0, false, by kernel_rfl, by decide, by decide, by decide, by decide, fun N S o ho => pat_s _ N S o ho⟩
  | 24, _, _ => exact ⟨⟨#[108, 97, 116, 101]⟩, 1, 0, 0, false, by kernel_rfl, by decide, by decide, by decide, by decide, fun N S o ho => pat_n _ N S o ho⟩
  | 25, _, _ => exact ⟨⟨#[119, 105, 116, 110, 101, 115, 115]⟩, 0, 0, 0, false, by kernel_rfl, by decide, by decide, by decide, by decide, fun N S o ho => pat_0 _ N S o ho⟩
  | 26, _, _ => exact ⟨⟨#[119, 97, 116, 99, 104]⟩, 0, 0, 0, false, by kernel_rfl, by decide, by decide, by decide, by decide, fun N S o ho => pat_0 _ N S o ho⟩
  | 27, _, _ => exact ⟨⟨#[105, 109, 97, 103, 101]⟩, 0, 0, 0, false, by kernel_rfl, by decide, by decide, by decide, by decide, fun N S o ho => pat_0 _ N S o ho⟩
  | 28, _, _ => exact ⟨⟨#[115, 97, 118, 101]⟩, 0, 0, 0, false, by kernel_rfl, by decide, by decide, by decide, by decide, fun N S o ho => pat_0 _ N S o ho⟩
  | 29, _, _ => exact ⟨⟨#[114, 101, 115, 116, 111, 114, 101]⟩, 0, 0, 0, false, by kernel_rfl, by decide, by decide, by decide, by decide, fun N S o ho => pat_0 _ N S o ho⟩
  | 30, _, _ => exact ⟨⟨#[97, 115, 107]⟩, 1, 2, 0, false, by kernel_rfl, by decide, by decide, by decide, by decide, fun N S o ho => pat_nss _ N S o ho⟩
  | 31, _, _ => exact ⟨⟨#[109, 105, 114, 114, 111, 114]⟩, 0, 0, 0, false, by kernel_rfl, by decide, by decide, by decide, by decide, fun N S o ho => pat_0 _ N S o ho⟩
  | 32, _, _ => exact ⟨⟨#[115, 101, 114, 118, 101]⟩, 1, 0, 0, false, by kernel_rfl, by decide, by decide, by decide, by decide, fun N S o ho => pat_n _ N S o ho⟩
  | 33, _, _ => exact ⟨⟨#[109, 97, 112]⟩, 1, 0, 0, false, by kernel_rfl, by decide, by decide, by decide, by decide, fun N S o ho => pat_n _ N S o ho⟩
  | 34, _, _ => exact ⟨⟨#[108, 111, 111, 107]⟩, 1, 1, 0, false, by kernel_rfl, by decide, by decide, by decide, by decide, fun N S o ho => pat_ns _ N S o ho⟩
  | n + 35, _, h => exact absurd h (by omega)

end Go.Proofs.Ytnpmkaklkonofaa.Txt
