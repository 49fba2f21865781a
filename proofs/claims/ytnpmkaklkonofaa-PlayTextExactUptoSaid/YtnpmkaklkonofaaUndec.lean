/- text.UnDec reads a number's decimal digits: what Dec writes, and nothing else. -/
import Derived.Test.YtnpmkaklkonofaaEsc
import Derived.Test.YtnpmkaklkonofaaDec
namespace Go.Proofs.Ytnpmkaklkonofaa.Txt
open Go.RowKit Go.Proofs.YtnpmkaklkonofaaW.PrintWords Go.Proofs.YtnpmkaklkonofaaW.PrintLast

/-- One more digit. -/
def undecStep (n : Int) (c : UInt8) : Int := wrap64 (wrap64 (wrap64 (10 * n) + (c.toNat : Int)) - 48)
theorem undecStep_range (n : Int) (c : UInt8) : -9223372036854775808 ≤ undecStep n c ∧ undecStep n c ≤ 9223372036854775807 := by
  unfold undecStep wrap64; omega
theorem fold_range (l : List UInt8) : ∀ n : Int, -9223372036854775808 ≤ n → n ≤ 9223372036854775807 → -9223372036854775808 ≤ l.foldl undecStep n ∧ l.foldl undecStep n ≤ 9223372036854775807 := by
  induction l with
  | nil => intro n h1 h2; exact ⟨h1, h2⟩
  | cons c l ih => intro n _ _; exact ih _ (undecStep_range n c).1 (undecStep_range n c).2

def undecV (l : List UInt8) : Int := if l.headD 0 = 45 then wrap64 (-((l.drop 1).foldl undecStep 0)) else l.foldl undecStep 0
def unDec (s : ByteArray) : Int × Int := if s.size = 0 ∨ 20 < s.size then (0, 42) else if decB (undecV s.data.toList) = s then (undecV s.data.toList, 0) else (0, 42)

set_option maxHeartbeats 400000 in
set_option maxRecDepth 100000 in
theorem undec1_calls (c : UInt8) (a : Nat) (n : Int) (W : World) (h : W.heap[a]? = some (.cells #[.int .i64 n] 3 (0, 0))) :
    Calls Try.prog 81 #[.int .u8 (c.toNat : Int), .pointer (some ⟨a, 0, none⟩)] W fun e W' => e = .returned (.bool true) ∧ W'.heap[a]? = some (.cells #[.int .i64 (undecStep n c)] 3 (0, 0)) ∧ Below a W W' := by
  have hc : c.toNat < 256 := c.toNat_lt
  have ha : a < W.heap.size := lt_of_block h
  have hv : W.cell? ⟨a, 0, none⟩ = some (.int .i64 n) := cell_of_one h
  have hf : W.frozen? ⟨a, 0, none⟩ = false := free_of_one h
  have HH := Lib.hid h
  clear h
  go_enter Try.func81, Try.ntmps81
  go_wp2
  go_ret
  exact ⟨rfl, one_setCell HH.out, Below.setCell (p := ⟨a, 0, none⟩) (Below.refl a W) (Nat.le_refl _) _⟩

theorem hF_undec : ∀ args (W : World), (callFunc 81 args).run Try.prog W = .ok (.enter 81 args) W :=
  fun args W => enters_ Try.func81 (by kernel_rfl) rfl args W

theorem undec_no (s : ByteArray) (h : s.size = 0 ∨ 20 < s.size) : unDec s = (0, 42) := by unfold unDec; rw [if_pos h]
theorem undec_yes (s : ByteArray) (v : Int) (h : ¬ (s.size = 0 ∨ 20 < s.size)) (hv : undecV s.data.toList = v) : unDec s = if decB v = s then (v, 0) else (0, 42) := by
  unfold unDec; rw [if_neg h, hv]

theorem extract_drop (s : ByteArray) : (s.extract 1 s.size).data.toList = s.data.toList.drop 1 := by
  rw [ByteArray.data_extract, Array.toList_extract]
  rw [List.extract_eq_take_drop, List.take_of_length_le (by rw [List.length_drop, dsize]; omega)]

theorem beq_yes {a b : ByteArray} (h : a = b) : (a.toList == b.toList) = true := by rw [h]; exact beq_self_eq_true _
theorem beq_no {a b : ByteArray} (h : ¬ a = b) : (a.toList == b.toList) = false := by
  rw [beq_eq_false_iff_ne]
  intro e
  rw [ByteArray.toList_eq, ByteArray.toList_eq] at e
  exact h (ByteArray.ext (Array.toList_inj.1 e))

theorem take_next (s : ByteArray) (i : Nat) (hi : i < s.size) : s.data.toList.take (i + 1) = s.data.toList.take i ++ [s[i]] := by
  rw [List.take_succ_eq_append_getElem (by rw [dsize]; exact hi)]; rfl

set_option maxHeartbeats 400000 in
set_option maxRecDepth 100000 in
theorem undec_calls (s : ByteArray) (w : World) (hs : s.size ≤ 140737488351232) :
    Calls Try.prog 65 #[.string s] w fun e w' => e = .returned (.tuple #[.int .i64 (unDec s).1, .int .i64 (unDec s).2]) ∧ Below w.heap.size w w' := by
  by_cases h0 : s.size = 0
  · have hb := Lib.hid (undec_no s (.inl h0))
    have g0 : ((s.size : Int) == 0) = true := by simp [h0]
    clear h0
    go_enter Try.func65, Try.ntmps65
    go_wp2
    go_ret2
    exact ⟨by rw [hb.out]; rfl, Below.refl _ _⟩
  by_cases h20 : 20 < s.size
  · have hb := Lib.hid (undec_no s (.inr h20))
    have g0 : ((s.size : Int) == 0) = false := beq_eq_false_iff_ne.2 (by omega)
    have g1 : decide ((s.size : Int) > 20) = true := decide_eq_true (by omega)
    clear h0
    go_enter Try.func65, Try.ntmps65
    go_wp2
    go_ret2
    exact ⟨by rw [hb.out]; rfl, Below.refl _ _⟩
  have hlen : 0 < s.size := by omega
  have g0 : ((s.size : Int) == 0) = false := beq_eq_false_iff_ne.2 (by omega)
  have g1 : decide ((s.size : Int) > 20) = false := decide_eq_false (by omega)
  have hh : s.data.toList.headD 0 = s[0] := by
    rw [List.headD_eq_head?_getD, List.head?_eq_getElem?, List.getElem?_eq_getElem (by rw [dsize]; exact hlen)]; rfl
  have hcase := undec_yes s (undecV s.data.toList) (by omega) rfl
  by_cases hm : s[0] = 45
  · have hV : undecV s.data.toList = wrap64 (-((s.data.toList.drop 1).foldl undecStep 0)) := by unfold undecV; rw [hh, if_pos hm]
    rw [hV] at hcase
    have hr : -9223372036854775808 ≤ wrap64 (-((s.data.toList.drop 1).foldl undecStep 0)) ∧ wrap64 (-((s.data.toList.drop 1).foldl undecStep 0)) ≤ 9223372036854775807 := by unfold wrap64; omega
    have HR := Lib.hid hr
    have HC := Lib.hid hcase
    have g2 : ((s[0].toNat : Int) == 45) = true := by rw [hm]; rfl
    clear hV hcase hh hm hr h0
    go_enter Try.func65, Try.ntmps65
    go_wp2_with fail
    have hd := extract_drop s
    refine (each_calls (s.extract 1 s.size) 81 _ hF_undec (fun k W => W.heap[w.heap.size]? = some (.cells #[.int .i64 (((s.data.toList.drop 1).take k).foldl undecStep 0)] 3 (0, 0)) ∧ Below w.heap.size w W) (fun _ => False) _ (by rw [← dsize, hd, List.length_drop, dsize]; omega) ?_ ?_).mono ?_
    · exact ⟨heap_alloc_new w _, (Below.refl _ _).alloc (Nat.le_refl _) _⟩
    · rintro i hi W ⟨hH, hB⟩
      refine (undec1_calls _ w.heap.size _ W hH).mono ?_
      rintro e W' ⟨rfl, h2, h3⟩
      refine .inl ⟨rfl, ?_, hB.trans h3⟩
      rw [← hd, take_next _ _ hi, List.foldl_append, hd]
      exact h2
    · rintro e w' (⟨rfl, hH, hB⟩ | ⟨_, h⟩)
      · rw [← hd, List.take_of_length_le (by rw [dsize]; omega), hd] at hH
        generalize (s.data.toList.drop 1).foldl undecStep 0 = v at hH HC HR
        have hv : w'.cell? ⟨w.heap.size, 0, none⟩ = some (.int .i64 v) := cell_of_one hH
        have hf : w'.frozen? ⟨w.heap.size, 0, none⟩ = false := free_of_one hH
        have hlt : w.heap.size < w'.heap.size := lt_of_block hH
        have hH2 := one_setCell (u := .int .i64 (wrap64 (-v))) hH
        have hB2 := Below.setCell (p := ⟨w.heap.size, 0, none⟩) hB (Nat.le_refl _) (.int .i64 (wrap64 (-v)))
        generalize hw2 : w'.setCell ⟨w.heap.size, 0, none⟩ (.int .i64 (wrap64 (-v))) = w2 at hH2 hB2
        have HH := Lib.hid hH2
        have HB := Lib.hid hB2
        clear hd hH hB hH2 hB2
        have HW := Lib.hid hw2
        clear hw2
        go_wp2_with fail
        rw [HW.out]
        clear HW hv hf
        refine (dec_calls (wrap64 (-v)) _ HR.out.1 HR.out.2).mono ?_
        rintro e w3 ⟨rfl, hb3⟩
        have hH3 : w3.heap[w.heap.size]? = some (.cells #[.int .i64 (wrap64 (-v))] 3 (0, 0)) := (hb3.block _ (lt_of_block HH.out)).trans HH.out
        have hv3 : w3.cell? ⟨w.heap.size, 0, none⟩ = some (.int .i64 (wrap64 (-v))) := cell_of_one hH3
        have HB3 := Lib.hid (HB.out.trans (hb3.mono HB.out.size))
        clear hH3 hb3
        by_cases heq : decB (wrap64 (-v)) = s
        · have HE := Lib.hid (HC.out.trans (if_pos heq))
          have g5 := beq_yes heq
          clear heq
          go_wp2
          go_ret2
          exact ⟨by rw [HE.out]; rfl, HB3.out⟩
        · have HE := Lib.hid (HC.out.trans (if_neg heq))
          have g5 := beq_no heq
          clear heq
          go_wp2
          go_ret2
          exact ⟨by rw [HE.out]; rfl, HB3.out⟩
      · exact h.elim
  · have hV : undecV s.data.toList = s.data.toList.foldl undecStep 0 := by unfold undecV; rw [hh, if_neg hm]
    rw [hV] at hcase
    have HR := Lib.hid (fold_range s.data.toList 0 (by omega) (by omega))
    have HC := Lib.hid hcase
    have g2 : ((s[0].toNat : Int) == 45) = false := by
      rw [beq_eq_false_iff_ne]
      intro e
      exact hm (UInt8.toNat.inj (by show s[0].toNat = 45; omega))
    clear hV hcase hh hm h0
    go_enter Try.func65, Try.ntmps65
    go_wp2_with fail
    refine (each_calls s 81 _ hF_undec (fun k W => W.heap[w.heap.size]? = some (.cells #[.int .i64 ((s.data.toList.take k).foldl undecStep 0)] 3 (0, 0)) ∧ Below w.heap.size w W) (fun _ => False) _ (by omega) ?_ ?_).mono ?_
    · exact ⟨heap_alloc_new w _, (Below.refl _ _).alloc (Nat.le_refl _) _⟩
    · rintro i hi W ⟨hH, hB⟩
      refine (undec1_calls _ w.heap.size _ W hH).mono ?_
      rintro e W' ⟨rfl, h2, h3⟩
      refine .inl ⟨rfl, ?_, hB.trans h3⟩
      rw [take_next _ _ hi, List.foldl_append]
      exact h2
    · rintro e w' (⟨rfl, hH, hB⟩ | ⟨_, h⟩)
      · rw [List.take_of_length_le (by rw [dsize]; omega)] at hH
        generalize s.data.toList.foldl undecStep 0 = v at hH HC HR
        have hv : w'.cell? ⟨w.heap.size, 0, none⟩ = some (.int .i64 v) := cell_of_one hH
        have HH := Lib.hid hH
        have HB := Lib.hid hB
        clear hH hB
        go_wp2_with fail
        clear hv
        refine (dec_calls v _ HR.out.1 HR.out.2).mono ?_
        rintro e w3 ⟨rfl, hb3⟩
        have hH3 : w3.heap[w.heap.size]? = some (.cells #[.int .i64 v] 3 (0, 0)) := (hb3.block _ (lt_of_block HH.out)).trans HH.out
        have hv3 : w3.cell? ⟨w.heap.size, 0, none⟩ = some (.int .i64 v) := cell_of_one hH3
        have HB3 := Lib.hid (HB.out.trans (hb3.mono HB.out.size))
        clear hH3 hb3
        by_cases heq : decB v = s
        · have HE := Lib.hid (HC.out.trans (if_pos heq))
          have g5 := beq_yes heq
          clear heq
          go_wp2
          go_ret2
          exact ⟨by rw [HE.out]; rfl, HB3.out⟩
        · have HE := Lib.hid (HC.out.trans (if_neg heq))
          have g5 := beq_no heq
          clear heq
          go_wp2
          go_ret2
          exact ⟨by rw [HE.out]; rfl, HB3.out⟩
      · exact h.elim

end Go.Proofs.Ytnpmkaklkonofaa.Txt
