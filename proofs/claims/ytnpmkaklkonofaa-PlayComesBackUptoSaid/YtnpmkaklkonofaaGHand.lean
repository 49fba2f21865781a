/- strings.Cut at a separator of one byte. -/
import Derived.Test.YtnpmkaklkonofaaGBase
import Derived.Test.YtnpmkaklkonofaaShelf
import Derived.BigQuiet
import Derived.Lib.Builder
import Derived.Lib.AppendStr
import Derived.Lib.Strings
set_option linter.unusedVariables false
set_option linter.unusedSimpArgs false
namespace Go.Proofs.Ytnpmkaklkonofaa.Txt
open Go.RowKit Go.Proofs.YtnpmkaklkonofaaW.PrintWords Go.Proofs.YtnpmkaklkonofaaW.PrintLast

theorem indexByte_lt (l : List UInt8) (c : UInt8) : Lib.indexByte l c < l.length := by
  induction l with
  | nil => simp [Lib.indexByte]
  | cons b l ih =>
    unfold Lib.indexByte
    split
    · simp
    · split
      · simp; omega
      · simp; omega

/-- What stands ahead of the first c, what behind it, and whether there is one. -/
def cutB (s : ByteArray) (c : UInt8) : ByteArray × ByteArray × Bool :=
  if 0 ≤ Lib.indexByte s.data.toList c then (s.extract 0 (Lib.indexByte s.data.toList c).toNat, s.extract ((Lib.indexByte s.data.toList c).toNat + 1) s.size, true) else (s, ⟨#[]⟩, false)
theorem cutB_yes {s : ByteArray} {c : UInt8} {i : Int} (hi : Lib.indexByte s.data.toList c = i) (h : 0 ≤ i) : cutB s c = (s.extract 0 i.toNat, s.extract (i.toNat + 1) s.size, true) := by unfold cutB; rw [hi, if_pos h]
theorem cutB_no {s : ByteArray} {c : UInt8} {i : Int} (hi : Lib.indexByte s.data.toList c = i) (h : ¬ 0 ≤ i) : cutB s c = (s, ⟨#[]⟩, false) := by unfold cutB; rw [hi, if_neg h]

set_option maxHeartbeats 400000 in
set_option maxRecDepth 100000 in
theorem cutlite_calls (s : ByteArray) (c : UInt8) (w : World) (hs : s.size ≤ 140737488351232) :
    Calls Try.prog 67 #[.string s, .string ⟨#[c]⟩] w fun e w' => e = .returned (.tuple #[.string (cutB s c).1, .string (cutB s c).2.1, .bool (cutB s c).2.2]) ∧ ∃ n, w' = w.drewN n := by
  have hlt := indexByte_lt s.data.toList c
  rw [dsize] at hlt
  have hge := Lib.indexByte_ge s.data.toList c
  go_enter Try.func67, Try.ntmps67
  go_wp2_with fail
  refine (Try.stringslite_Index_one s c _).mono ?_
  rintro e w' ⟨rfl, rfl⟩
  generalize hi : Lib.indexByte s.data.toList c = i at *
  have HI := Lib.hid hi
  clear hi
  by_cases h0 : 0 ≤ i
  · have hC := Lib.hid (cutB_yes HI.out h0)
    have g0 : decide (i ≥ 0) = true := decide_eq_true h0
    have hm : i.toNat ≤ s.size := by omega
    have hq1 : (0 ≤ i ∧ i ≤ (s.size : Int)) := by omega
    have hq2 : (0 ≤ i + 1 ∧ i + 1 ≤ (s.size : Int)) := by omega
    have hq3 : (i + 1).toNat = i.toNat + 1 := by omega
    have hwr : wrap64 (i + 1) = i + 1 := by unfold wrap64; omega
    go_wp2_with fail
    go_quiet (fail)
    go_wp2
    go_ret3
    exact ⟨by rw [hC.out]; rfl, nq, rfl⟩
  · have hC := Lib.hid (cutB_no HI.out h0)
    have g0 : decide (i ≥ 0) = false := decide_eq_false h0
    go_wp2
    go_ret3
    exact ⟨by rw [hC.out]; rfl, 0, rfl⟩

set_option maxHeartbeats 400000 in
set_option maxRecDepth 100000 in
theorem cut_calls (s : ByteArray) (c : UInt8) (w : World) (hs : s.size ≤ 140737488351232) :
    Calls Try.prog 44 #[.string s, .string ⟨#[c]⟩] w fun e w' => e = .returned (.tuple #[.string (cutB s c).1, .string (cutB s c).2.1, .bool (cutB s c).2.2]) ∧ ∃ n, w' = w.drewN n := by
  go_enter Try.func44, Try.ntmps44
  go_wp2_with fail
  refine (cutlite_calls s c _ hs).mono ?_
  rintro e w' ⟨rfl, n, rfl⟩
  go_wp2
  go_ret3
  exact ⟨rfl, n, rfl⟩

end Go.Proofs.Ytnpmkaklkonofaa.Txt


/- (*strings.Builder).WriteString at a builder that the call itself has made. -/
namespace Go.Proofs.Ytnpmkaklkonofaa.Txt
open Go.RowKit Go.Proofs.YtnpmkaklkonofaaW.PrintWords Go.Proofs.YtnpmkaklkonofaaW.PrintLast

theorem infoB : (Try.prog.info? 58).map (·.size) = some 2 := by kernel_rfl
theorem liesB : liesAt Try.prog Try.prog.depth 58 (2 / Try.prog.cellsOf 58) 0 58 1 = true := by kernel_rfl

set_option maxHeartbeats 400000 in
set_option maxRecDepth 100000 in
theorem copyCheck_used (b : Nat) (w : World) (h0 : w.cell? ⟨b, 0, none⟩ = some (.pointer (some ⟨b, 0, none⟩))) :
    Calls Try.prog 52 #[.pointer (some ⟨b, 0, none⟩)] w fun e w' => e = .returned (.tuple #[]) ∧ w' = w := by
  obtain ⟨j, hj, _⟩ := Option.map_eq_some_iff.1 infoB
  go_enter Try.func52, Try.ntmps52
  go_wp2
  rw [Lib.run_neq_ptr_same w _ Try.underlying55 hj]
  go_wp2
  go_end0
  exact ⟨rfl, rfl⟩

set_option maxHeartbeats 400000 in
set_option maxRecDepth 100000 in
theorem copyCheck_fresh (b : Nat) (w : World) (h0 : w.cell? ⟨b, 0, none⟩ = some (.pointer none)) (hsh : w.shape? b = some (58, 2)) (hfz : w.frozen? ⟨b, 0, none⟩ = false) :
    Calls Try.prog 52 #[.pointer (some ⟨b, 0, none⟩)] w fun e w' => e = .returned (.tuple #[]) ∧ w' = w.setCell ⟨b, 0, none⟩ (.pointer (some ⟨b, 0, none⟩)) := by
  obtain ⟨j, hj, hjs⟩ := Option.map_eq_some_iff.1 infoB
  go_enter Try.func52, Try.ntmps52
  go_wp2
  rw [Lib.run_to_unsafe w ⟨b, 0, none⟩ Try.underlying55 Try.underlying124 hj (by rw [hjs]; decide) hsh (Nat.zero_lt_succ 1)]
  simp only [Result.andThen]
  rw [Oper.upon_value]
  go_wp2
  rw [run_callFunc_extern Try.func75 (by kernel_rfl) (by kernel_rfl) (by kernel_rfl) (e := Extern.AbiNoEscape.same) (by kernel_rfl)]
  rw [Lib.run_noEscape]
  simp only [Result.andThen]
  rw [Oper.upon_value]
  go_wp2
  rw [Lib.run_from_unsafe w ⟨b, 0, none⟩ Try.underlying124 Try.underlying55 hj hsh liesB]
  simp only [Result.andThen]
  rw [Oper.upon_value]
  go_wp2
  go_end0
  exact ⟨rfl, rfl⟩

theorem copyCheck_calls (B b : Nat) (bs : List Value) (w : World) (h : Lib.IsBuilder 58 5 B b bs w) :
    Calls Try.prog 52 #[.pointer (some ⟨b, 0, none⟩)] w fun e w' => e = .returned (.tuple #[]) ∧ (Lib.BuilderAt 58 5 B b (.pointer (some ⟨b, 0, none⟩)) bs w' ∧ Below B w w') := by
  rcases h with h | h
  · refine (copyCheck_fresh b w h.cell0 h.shape h.frozen0).mono ?_
    rintro e w' ⟨rfl, rfl⟩
    exact ⟨rfl, h.used _, (Below.refl B w).setCell (p := ⟨b, 0, none⟩) h.1 _⟩
  · refine (copyCheck_used b w h.cell0).mono ?_
    rintro e w' ⟨rfl, rfl⟩
    exact ⟨rfl, h, Below.refl B _⟩

set_option maxHeartbeats 1000000 in
set_option maxRecDepth 100000 in
theorem writeString_calls (B b : Nat) (bs : List Value) (s : ByteArray) (w : World) (h : Lib.IsBuilder 58 5 B b bs w) (hlen : bs.length + s.size ≤ 140737488355328) (hBw : B ≤ w.heap.size) :
    Calls Try.prog 27 #[.pointer (some ⟨b, 0, none⟩), .string s] w fun e w' => e = .returned (.tuple #[.int .i64 s.size, .nilIface]) ∧ (Lib.BuilderAt 58 5 B b (.pointer (some ⟨b, 0, none⟩)) (bs ++ Lib.strCells s) w' ∧ Below B w w') := by
  obtain ⟨i0, hi, hz0, hz1, hz2⟩ := info_parts info5
  go_enter Try.func27, Try.ntmps27
  go_wp2_with (go_at_call 52; refine (copyCheck_calls B b bs _ h).mono ?_)
  rintro e w1 ⟨rfl, h1, hb1⟩
  obtain ⟨hB, v, hbk, hown, hne⟩ := h1
  have c0 : w1.cell? ⟨b, 0, none⟩ = some (.pointer (some ⟨b, 0, none⟩)) := by rw [Lib.cell_of_heap hbk]; rfl
  have c1 : w1.cell? ⟨b, 1, none⟩ = some v := by rw [Lib.cell_of_heap hbk]; rfl
  go_wp2_with (at_builtin; refine Lib.wpList_append_own_string _ rfl _ _ 56 9 rfl B 5 i0 Try.underlying56 Try.underlying9 hi hz0 hz1 hz2 _ _ _ rfl hown s rfl ?c3 ?c4 ?c5 ?_)
  case c3 => unfold maxLen; omega
  case c4 => omega
  case c5 => have := hb1.size; omega
  intro v' w2 hown' hgrow _
  have hlt : b < w1.heap.size := lt_of_block hbk
  have hb2 : w2.heap[b]? = some (.cells #[.pointer (some ⟨b, 0, none⟩), v] 58 (0, 0)) := by
    rw [hgrow.block b hlt (fun e => hne e.symm)]
    exact hbk
  have d0 : w2.cell? ⟨b, 0, none⟩ = some (.pointer (some ⟨b, 0, none⟩)) := by rw [Lib.cell_of_heap hb2]; rfl
  have d1 : w2.cell? ⟨b, 1, none⟩ = some v := by rw [Lib.cell_of_heap hb2]; rfl
  have f1 : w2.frozen? ⟨b, 1, none⟩ = false := Lib.frozen_of_heap hb2 1
  obtain ⟨ao, n', cap, rfl⟩ : ∃ ao n' cap, v' = .slice ao n' cap := by
    rcases hown'.2 with ⟨hv, _⟩ | ⟨g, cap, cur, hv, _⟩
    · exact ⟨_, _, _, hv⟩
    · exact ⟨_, _, _, hv⟩
  go_wp2
  go_ret2
  refine ⟨rfl, ?_, ?_⟩
  · exact Lib.BuilderAt.put (T := 58) (e := 5) hB hb2 (bs' := bs ++ Lib.strCells s) (by simpa [Lib.strCells_length] using hown') (by decide)
  · exact (hb1.grown hgrow (by have := hb1.size; omega) (fun k hk => (hown.lt k hk).1)).setCell (p := ⟨b, 1, none⟩) hB _

end Go.Proofs.Ytnpmkaklkonofaa.Txt


/- The document's own Escape writes the same words. -/
namespace Go.Proofs.Ytnpmkaklkonofaa.Txt
open Go.RowKit Go.Proofs.YtnpmkaklkonofaaW.PrintWords Go.Proofs.YtnpmkaklkonofaaW.PrintLast

def bigB : ByteArray := ⟨#[48, 49, 50, 51, 52, 53, 54, 55, 56, 57, 65, 66, 67, 68, 69, 70]⟩
set_option maxRecDepth 100000 in
theorem big_cut (v : Nat) (h : v < 16) : bigB.extract v (v + 1) = ⟨#[hexU v]⟩ := by
  have key : ∀ m : Fin 16, (bigB.extract m.val (m.val + 1)).data.toList = [hexU m.val] := by decide +kernel
  exact ByteArray.ext (Array.toList_inj.1 (key ⟨v, h⟩))

set_option maxHeartbeats 400000 in
set_option maxRecDepth 100000 in
theorem rsign_calls (x : Int) (v : Nat) (hx : x = v) (h : v < 16) (w : World) :
    Calls Try.prog 62 #[.string ⟨#[48, 49, 50, 51, 52, 53, 54, 55, 56, 57, 65, 66, 67, 68, 69, 70]⟩, .int .i64 x] w fun e w' => e = .returned (.string ⟨#[hexU v]⟩) ∧ w' = w := by
  subst hx
  have hc := Lib.hid (big_cut v h)
  have e1 : ((v : Int)).toNat = v := by omega
  go_enter Try.func62, Try.ntmps62
  go_wp2
  go_ret
  exact ⟨by rw [← hc.out]; rfl, rfl⟩

theorem append_arr (l m : List UInt8) : (⟨l.toArray⟩ : ByteArray) ++ ⟨m.toArray⟩ = ⟨(l ++ m).toArray⟩ := by
  apply ByteArray.ext
  rw [ByteArray.data_append]
  simp
theorem size_arr (l : List UInt8) : (⟨l.toArray⟩ : ByteArray).size = l.length := by show l.toArray.size = _; simp
theorem cut_one (s : ByteArray) (k : Nat) (h : k < s.size) : s.extract k (k + 1) = ⟨[s[k]].toArray⟩ := by
  apply ByteArray.ext
  apply Array.toList_inj.1
  rw [ByteArray.data_extract, Array.toList_extract, List.extract_eq_take_drop, Nat.add_sub_cancel_left, List.drop_eq_getElem_cons (by rw [dsize]; exact h)]
  rfl

set_option maxHeartbeats 1000000 in
set_option maxRecDepth 100000 in
theorem resc_calls (s : ByteArray) (w : World) (hs : s.size ≤ 35184372088832) :
    Calls Try.prog 60 #[.string s] w fun e w' => e = .returned (.string (escB s)) ∧ ∃ n, w' = w.drewN n := by
  by_cases h0 : s.toList = []
  · have hb : escB s = ⟨#[37]⟩ := by
      have : s.data.toList = [] := by simpa [ByteArray.toList_eq] using h0
      unfold escB escL; rw [if_pos this]
    have HB := Lib.hid hb
    clear hb
    go_enter Try.func60, Try.ntmps60
    go_wp2
    go_ret
    exact ⟨by rw [HB.out]; rfl, 0, rfl⟩
  · have hb : escB s = ⟨((s.data.toList.take s.size).flatMap escC).toArray⟩ := by
      have : ¬ s.data.toList = [] := by simpa [ByteArray.toList_eq] using h0
      unfold escB escL; rw [if_neg this, List.take_of_length_le (by rw [dsize]; omega)]
    have HB := Lib.hid hb
    clear hb
    have h1 : s.toList.isEmpty = false := by simpa using h0
    go_enter Try.func60, Try.ntmps60
    go_wp2
    go_loopw [3, 4] (fun v3 v4 wr => ∃ (k : Nat) (x : ByteArray), v4 = .int .i64 k ∧ v3 = .string x ∧ k ≤ s.size ∧ x.size ≤ 3 * k ∧ Hid (x = ⟨((s.data.toList.take k).flatMap escC).toArray⟩) ∧ Hid (∃ n, wr = w.drewN n)) (fun _ v4 _ => s.size - (intOf v4).toNat)
    case atStart => exact ⟨0, ⟨#[]⟩, rfl, rfl, by omega, by decide, rfl, 0, rfl⟩
    case round =>
      obtain ⟨k, x, rfl, rfl, hk, hx, HX, HW⟩ := hrel
      by_cases hlt : k < s.size
      · have hb := s[k].toNat_lt
        have hnext := take_next s k hlt
        by_cases hin : 32 < s[k].toNat ∧ s[k].toNat < 127 ∧ s[k].toNat ≠ 37
        · have hX2 : Hid (x ++ s.extract k (k + 1) = ⟨((s.data.toList.take (k + 1)).flatMap escC).toArray⟩) := by
            show _ = _
            rw [HX.out, cut_one s k hlt, append_arr, hnext, List.flatMap_append]
            congr 2
            simp [escC, hin]
          have hsz : (x ++ s.extract k (k + 1)).size ≤ 3 * (k + 1) := by rw [ByteArray.size_append, cut_one s k hlt, size_arr [s[k]], List.length_singleton]; omega
          have b1 : decide ((s[k].toNat : Int) ≥ 33) = true := decide_eq_true (by omega)
          have b2 : decide ((s[k].toNat : Int) ≤ 126) = true := decide_eq_true (by omega)
          have b3 : ((s[k].toNat : Int) != 37) = true := by rw [bne_iff_ne]; omega
          have hfit : x.size + (s.extract k (k + 1)).size ≤ 9223372036854775807 := by rw [cut_one s k hlt, size_arr [s[k]], List.length_singleton]; omega
          have HS := Lib.hid hsz
          clear hnext hsz
          go_wp2
          go_roundw
          case rel => exact ⟨k + 1, _, by go_num, rfl, by omega, HS.out, hX2, HW⟩
          case measure => simp [intOf]; omega
        · have hX2 : Hid (((x ++ ⟨#[37]⟩) ++ ⟨#[hexU (s[k].toNat / 16)]⟩) ++ ⟨#[hexU (s[k].toNat % 16)]⟩ = ⟨((s.data.toList.take (k + 1)).flatMap escC).toArray⟩) := by
            show _ = _
            rw [HX.out, show (⟨#[37]⟩ : ByteArray) = ⟨[37].toArray⟩ from rfl, show (⟨#[hexU (s[k].toNat / 16)]⟩ : ByteArray) = ⟨[hexU (s[k].toNat / 16)].toArray⟩ from rfl, show (⟨#[hexU (s[k].toNat % 16)]⟩ : ByteArray) = ⟨[hexU (s[k].toNat % 16)].toArray⟩ from rfl, append_arr, append_arr, append_arr, hnext, List.flatMap_append]
            congr 2
            simp [escC, hin]
          have z1 : (⟨#[37]⟩ : ByteArray).size = 1 := rfl
          have z2 : (⟨#[hexU (s[k].toNat / 16)]⟩ : ByteArray).size = 1 := rfl
          have z3 : (⟨#[hexU (s[k].toNat % 16)]⟩ : ByteArray).size = 1 := rfl
          have hsz : (((x ++ ⟨#[37]⟩) ++ ⟨#[hexU (s[k].toNat / 16)]⟩) ++ ⟨#[hexU (s[k].toNat % 16)]⟩).size ≤ 3 * (k + 1) := by rw [ByteArray.size_append, ByteArray.size_append, ByteArray.size_append, z1, z2, z3]; omega
          have f1 : (9223372036854775807 < x.size + 1) = False := eq_false (by omega)
          have f2 : (9223372036854775807 < x.size + 1 + 1) = False := eq_false (by clear f1; omega)
          have f3 : (9223372036854775807 < x.size + 1 + 1 + 1) = False := eq_false (by clear f1 f2; omega)
          have HS := Lib.hid hsz
          have three : decide ((s[k].toNat : Int) ≥ 33) = false ∨ (decide ((s[k].toNat : Int) ≥ 33) = true ∧ decide ((s[k].toNat : Int) ≤ 126) = false) ∨ (decide ((s[k].toNat : Int) ≥ 33) = true ∧ decide ((s[k].toNat : Int) ≤ 126) = true ∧ ((s[k].toNat : Int) != 37) = false) := by
            by_cases h1 : (s[k].toNat : Int) ≥ 33
            · by_cases h2 : (s[k].toNat : Int) ≤ 126
              · exact .inr (.inr ⟨decide_eq_true h1, decide_eq_true h2, by rw [bne_eq_false_iff_eq]; omega⟩)
              · exact .inr (.inl ⟨decide_eq_true h1, decide_eq_false h2⟩)
            · exact .inl (decide_eq_false h1)
          clear hnext hsz z1 z2 z3
          rcases three with b1 | ⟨b1, b2⟩ | ⟨b1, b2, b3⟩
          all_goals
            go_wp2_with fail
            have m1 : Hid ((s[k].toNat : Int) / 16 = ((s[k].toNat / 16 : Nat) : Int) ∧ s[k].toNat / 16 < 16) := ⟨by omega, by omega⟩
            have m2 : Hid ((s[k].toNat : Int) % 16 = ((s[k].toNat % 16 : Nat) : Int) ∧ s[k].toNat % 16 < 16) := ⟨by omega, by omega⟩
            have q1 : IntKind.i64.wrap (s[k].toNat : Int) = (s[k].toNat : Int) := by rw [IntKind.wrap_i64]; omega
            have q2 : IntKind.i64.wrap ((s[k].toNat : Int) / 16) = (s[k].toNat : Int) / 16 := by clear q1; rw [IntKind.wrap_i64]; omega
            have j1 : (0 ≤ (k : Int) ∧ (k : Int) < (s.size : Int)) := by clear q1 q2; omega
            refine start_ (n := 17) (S := fun w' => True) (ds := []) #[false, false, false, false, false, false, false, false, false, false, false, false, false, false, false, false, false] (by kernel_rfl) rfl rfl trivial (fun hHeld => ?_)
            refine pure_ (i := 0) (N := some 36) (v := ?_) (a' := ?_) #[true, false, false, false, false, false, false, false, false, false, false, false, false, false, false, false, false] rfl rfl (by kernel_rfl) (fun _ _ _ h => h) (Or.inl ⟨by rfl, ?_⟩) ?_ ?_
            rotate_left
            · intro w'
              go_simp
              with_reducible rfl
            rotate_left
            · simp only [Act.put, List.setIfInBounds_toArray, List.set_cons_zero, List.set_cons_succ, i64_w, i32_w]
              rfl
            refine pure_ (i := 1) (N := some 37) (v := ?_) (a' := ?_) #[true, true, false, false, false, false, false, false, false, false, false, false, false, false, false, false, false] rfl rfl (by kernel_rfl) (fun _ _ _ h => h) (Or.inl ⟨by rfl, ?_⟩) ?_ ?_
            rotate_left
            · intro w'
              go_simp
              with_reducible rfl
            rotate_left
            · simp only [Act.put, List.setIfInBounds_toArray, List.set_cons_zero, List.set_cons_succ, i64_w, i32_w]
              rfl
            refine pure_ (i := 2) (N := some 38) (v := ?_) (a' := ?_) #[true, true, true, false, false, false, false, false, false, false, false, false, false, false, false, false, false] rfl rfl (by kernel_rfl) (fun _ _ _ h => h) (Or.inl ⟨by rfl, ?_⟩) ?_ ?_
            rotate_left
            · intro w'
              go_simp
              with_reducible rfl
            rotate_left
            · simp only [Act.put, List.setIfInBounds_toArray, List.set_cons_zero, List.set_cons_succ, i64_w, i32_w]
              rfl
            refine pure_ (i := 3) (N := some 39) (v := ?_) (a' := ?_) #[true, true, true, true, false, false, false, false, false, false, false, false, false, false, false, false, false] rfl rfl (by kernel_rfl) (fun _ _ _ h => h) (Or.inl ⟨by rfl, ?_⟩) ?_ ?_
            rotate_left
            · intro w'
              go_simp
              with_reducible rfl
            rotate_left
            · simp only [Act.put, List.setIfInBounds_toArray, List.set_cons_zero, List.set_cons_succ, i64_w, i32_w]
              rfl
            refine pure_ (i := 9) (N := some 45) (v := ?_) (a' := ?_) #[true, true, true, true, false, false, false, false, false, true, false, false, false, false, false, false, false] rfl rfl (by kernel_rfl) (fun _ _ _ h => h) (Or.inl ⟨by rfl, ?_⟩) ?_ ?_
            rotate_left
            · intro w'
              go_simp
              with_reducible rfl
            rotate_left
            · simp only [Act.put, List.setIfInBounds_toArray, List.set_cons_zero, List.set_cons_succ, i64_w, i32_w]
              rfl
            refine pure_ (i := 10) (N := some 46) (v := ?_) (a' := ?_) #[true, true, true, true, false, false, false, false, false, true, true, false, false, false, false, false, false] rfl rfl (by kernel_rfl) (fun _ _ _ h => h) (Or.inl ⟨by rfl, ?_⟩) ?_ ?_
            rotate_left
            · intro w'
              go_simp
              with_reducible rfl
            rotate_left
            · simp only [Act.put, List.setIfInBounds_toArray, List.set_cons_zero, List.set_cons_succ, i64_w, i32_w]
              rfl
            refine take_ (i := 4) (N := some 40) (v := ?_) (a' := ?_) #[true, true, true, true, true, false, false, false, false, true, true, false, false, false, false, false, false] rfl rfl (by kernel_rfl) (fun _ _ _ h => h) (Or.inl ⟨by rfl, ?_⟩) hHeld ?_ ?_
            rotate_left
            · intro w' _
              go_simp
              with_reducible rfl
            rotate_left
            · simp only [Act.put, List.setIfInBounds_toArray, List.set_cons_zero, List.set_cons_succ, i64_w, i32_w]
              rfl
            refine pure_ (i := 5) (N := some 41) (v := ?_) (a' := ?_) #[true, true, true, true, true, true, false, false, false, true, true, false, false, false, false, false, false] rfl rfl (by kernel_rfl) (fun _ _ _ h => h) (Or.inl ⟨by rfl, ?_⟩) ?_ ?_
            rotate_left
            · intro w'
              go_simp
              with_reducible rfl
            rotate_left
            · simp only [Act.put, List.setIfInBounds_toArray, List.set_cons_zero, List.set_cons_succ, i64_w, i32_w]
              rfl
            refine pure_ (i := 6) (N := some 42) (v := ?_) (a' := ?_) #[true, true, true, true, true, true, true, false, false, true, true, false, false, false, false, false, false] rfl rfl (by kernel_rfl) (fun _ _ _ h => h) (Or.inl ⟨by rfl, ?_⟩) ?_ ?_
            rotate_left
            · intro w'
              go_simp
              with_reducible rfl
            rotate_left
            · simp only [Act.put, List.setIfInBounds_toArray, List.set_cons_zero, List.set_cons_succ, i64_w, i32_w]
              rfl
            refine take_ (i := 11) (N := some 47) (v := ?_) (a' := ?_) #[true, true, true, true, true, true, true, false, false, true, true, true, false, false, false, false, false] rfl rfl (by kernel_rfl) (fun _ _ _ h => h) (Or.inl ⟨by rfl, ?_⟩) hHeld ?_ ?_
            rotate_left
            · intro w' _
              go_simp
              with_reducible rfl
            rotate_left
            · simp only [Act.put, List.setIfInBounds_toArray, List.set_cons_zero, List.set_cons_succ, i64_w, i32_w]
              rfl
            refine pure_ (i := 12) (N := some 48) (v := ?_) (a' := ?_) #[true, true, true, true, true, true, true, false, false, true, true, true, true, false, false, false, false] rfl rfl (by kernel_rfl) (fun _ _ _ h => h) (Or.inl ⟨by rfl, ?_⟩) ?_ ?_
            rotate_left
            · intro w'
              go_simp
              with_reducible rfl
            rotate_left
            · simp only [Act.put, List.setIfInBounds_toArray, List.set_cons_zero, List.set_cons_succ, i64_w, i32_w]
              rfl
            refine pure_ (i := 13) (N := some 49) (v := ?_) (a' := ?_) #[true, true, true, true, true, true, true, false, false, true, true, true, true, true, false, false, false] rfl rfl (by kernel_rfl) (fun _ _ _ h => h) (Or.inl ⟨by rfl, ?_⟩) ?_ ?_
            rotate_left
            · intro w'
              go_simp
              with_reducible rfl
            rotate_left
            · simp only [Act.put, List.setIfInBounds_toArray, List.set_cons_zero, List.set_cons_succ, i64_w, i32_w]
              rfl
            refine one_ (i := 7) (N := some 43) #[true, true, true, true, true, true, true, true, false, true, true, true, true, true, false, false, false] rfl rfl (by kernel_rfl) (by decide) (fun K hK => ?_)
            refine goes_ Try.func62 (by kernel_rfl) rfl #[.string ⟨#[48, 49, 50, 51, 52, 53, 54, 55, 56, 57, 65, 66, 67, 68, 69, 70]⟩, .int .i64 ((s[k].toNat : Int) / 16)] (by rfl) rfl rfl (by simp only [List.map_toArray, List.map_cons, List.map_nil]; rfl) ?_
            with_reducible refine (rsign_calls ((s[k].toNat : Int) / 16) (s[k].toNat / 16) m1.out.1 m1.out.2 _).mono ?_
            rintro e w3 ⟨rfl, rfl⟩
            refine ⟨_, rfl, ?_⟩
            refine hK.out _ _ trivial (fun hHeld => ?_)
            clear hK K
            refine norm_ (a' := ?_) ?_ ?_
            rotate_left
            · show Act.put _ (some 43) _ = _
              simp only [Act.put, List.setIfInBounds_toArray, List.set_cons_zero, List.set_cons_succ, i64_w, i32_w]
              rfl
            refine pure_ (i := 8) (N := some 44) (v := ?_) (a' := ?_) #[true, true, true, true, true, true, true, true, true, true, true, true, true, true, false, false, false] rfl rfl (by kernel_rfl) (fun _ _ _ h => h) (Or.inl ⟨by rfl, ?_⟩) ?_ ?_
            rotate_left
            · intro w'
              go_simp
              with_reducible rfl
            rotate_left
            · simp only [Act.put, List.setIfInBounds_toArray, List.set_cons_zero, List.set_cons_succ, i64_w, i32_w]
              rfl
            refine one_ (i := 14) (N := some 50) #[true, true, true, true, true, true, true, true, true, true, true, true, true, true, true, false, false] rfl rfl (by kernel_rfl) (by decide) (fun K hK => ?_)
            refine goes_ Try.func62 (by kernel_rfl) rfl #[.string ⟨#[48, 49, 50, 51, 52, 53, 54, 55, 56, 57, 65, 66, 67, 68, 69, 70]⟩, .int .i64 ((s[k].toNat : Int) % 16)] (by rfl) rfl rfl (by simp only [List.map_toArray, List.map_cons, List.map_nil]; rfl) ?_
            with_reducible refine (rsign_calls ((s[k].toNat : Int) % 16) (s[k].toNat % 16) m2.out.1 m2.out.2 _).mono ?_
            rintro e w3 ⟨rfl, rfl⟩
            refine ⟨_, rfl, ?_⟩
            refine hK.out _ _ trivial (fun hHeld => ?_)
            clear hK K
            refine norm_ (a' := ?_) ?_ ?_
            rotate_left
            · show Act.put _ (some 50) _ = _
              simp only [Act.put, List.setIfInBounds_toArray, List.set_cons_zero, List.set_cons_succ, i64_w, i32_w]
              rfl
            refine pure_ (i := 15) (N := some 51) (v := ?_) (a' := ?_) #[true, true, true, true, true, true, true, true, true, true, true, true, true, true, true, true, false] rfl rfl (by kernel_rfl) (fun _ _ _ h => h) (Or.inl ⟨by rfl, ?_⟩) ?_ ?_
            rotate_left
            · intro w'
              go_simp
              with_reducible rfl
            rotate_left
            · simp only [Act.put, List.setIfInBounds_toArray, List.set_cons_zero, List.set_cons_succ, i64_w, i32_w]
              rfl
            refine pure_ (i := 16) (N := some 3) (v := ?_) (a' := ?_) #[true, true, true, true, true, true, true, true, true, true, true, true, true, true, true, true, true] rfl rfl (by kernel_rfl) (fun _ _ _ h => h) (Or.inl ⟨by rfl, ?_⟩) ?_ ?_
            rotate_left
            · intro w'
              go_simp
              with_reducible rfl
            rotate_left
            · simp only [Act.put, List.setIfInBounds_toArray, List.set_cons_zero, List.set_cons_succ, i64_w, i32_w]
              rfl
            refine done_ (by kernel_rfl) ?_
            clear q1 q2 f1 f2 f3
            go_wp2
            go_roundw
            case rel => exact ⟨k + 1, _, by go_num, rfl, by omega, HS.out, hX2, by obtain ⟨n, hn⟩ := HW.out; exact ⟨n + 1, by rw [hn]; rfl⟩⟩
            case measure => simp [intOf]; omega
      · obtain rfl : k = s.size := by omega
        go_wp2
        go_ret
        exact ⟨by rw [HB.out, ← HX.out]; rfl, HW.out⟩

end Go.Proofs.Ytnpmkaklkonofaa.Txt


/- The contracts of the functions that are proved by hand, in the form in which the other functions' texts ask for them. -/
namespace Go.Proofs.Ytnpmkaklkonofaa.Hand
open Go.RowKit Go.Proofs.YtnpmkaklkonofaaW.PrintWords Go.Proofs.YtnpmkaklkonofaaW.PrintLast Go.Proofs.Ytnpmkaklkonofaa.Txt

def text_Dec.f (a0 : Int) : Option ByteArray := if -9223372036854775808 ≤ a0 then (if a0 ≤ 9223372036854775807 then some (decB a0) else none) else none
theorem text_Dec.calls (a0 : Int) (r : ByteArray) (w : World) (h : text_Dec.f a0 = some r) :
    Calls Try.prog 33 #[.int .i64 a0] w fun e w' => e = .returned (.string r) ∧ Below w.heap.size w w' := by
  unfold text_Dec.f at h
  split at h
  · split at h
    · obtain rfl := Option.some.inj h
      exact dec_calls a0 w ‹_› ‹_›
    · cases h
  · cases h

def text_Escape.f (a0 : ByteArray) : Option ByteArray := if a0.size ≤ 35184372088832 then some (escB a0) else none
theorem text_Escape.calls (a0 : ByteArray) (r : ByteArray) (w : World) (h : text_Escape.f a0 = some r) :
    Calls Try.prog 55 #[.string a0] w fun e w' => e = .returned (.string r) ∧ Below w.heap.size w w' := by
  unfold text_Escape.f at h
  split at h
  · obtain rfl := Option.some.inj h
    exact esc_calls a0 w ‹_›
  · cases h

def text_UnDec.f (a0 : ByteArray) : Option (Int × Int) := if a0.size ≤ 140737488351232 then some (unDec a0) else none
theorem text_UnDec.calls (a0 : ByteArray) (r1 r2 : Int) (w : World) (h : text_UnDec.f a0 = some (r1, r2)) :
    Calls Try.prog 65 #[.string a0] w fun e w' => e = .returned (.tuple #[.int .i64 r1, .int .i64 r2]) ∧ Below w.heap.size w w' := by
  unfold text_UnDec.f at h
  split at h
  · have h := Option.some.inj h
    have h1 : (unDec a0).1 = r1 := by rw [h]
    have h2 : (unDec a0).2 = r2 := by rw [h]
    subst h1 h2
    exact undec_calls a0 w ‹_›
  · cases h

def text_Unescape.f (a0 : ByteArray) : Option (ByteArray × Int) := if a0.size ≤ 35184372088832 then some (unesc a0) else none
theorem text_Unescape.calls (a0 : ByteArray) (r1 : ByteArray) (r2 : Int) (w : World) (h : text_Unescape.f a0 = some (r1, r2)) :
    Calls Try.prog 64 #[.string a0] w fun e w' => e = .returned (.tuple #[.string r1, .int .i64 r2]) ∧ Below w.heap.size w w' := by
  unfold text_Unescape.f at h
  split at h
  · have h := Option.some.inj h
    have h1 : (unesc a0).1 = r1 := by rw [h]
    have h2 : (unesc a0).2 = r2 := by rw [h]
    subst h1 h2
    exact unesc_calls a0 w ‹_›
  · cases h

def strings_Cut.f (a0 a1 : ByteArray) : Option (ByteArray × ByteArray × Bool) := if a0.size ≤ 140737488351232 then (match a1.data.toList with | [c] => some (cutB a0 c) | _ => none) else none
theorem strings_Cut.calls (a0 a1 : ByteArray) (r1 r2 : ByteArray) (r3 : Bool) (w : World) (h : strings_Cut.f a0 a1 = some (r1, r2, r3)) :
    Calls Try.prog 44 #[.string a0, .string a1] w fun e w' => e = .returned (.tuple #[.string r1, .string r2, .bool r3]) ∧ Drawn0 w w' := by
  unfold strings_Cut.f at h
  split at h
  · split at h
    · rename_i c hc
      have h := Option.some.inj h
      have h1 : (cutB a0 c).1 = r1 := by rw [h]
      have h2 : (cutB a0 c).2.1 = r2 := by rw [h]
      have h3 : (cutB a0 c).2.2 = r3 := by rw [h]
      subst h1 h2 h3
      obtain rfl : a1 = ⟨#[c]⟩ := ByteArray.ext (Array.toList_inj.1 hc)
      refine (cut_calls a0 c w ‹_›).mono ?_
      rintro e w' ⟨rfl, hn⟩
      exact ⟨rfl, ⟨hn⟩⟩
    · cases h
  · cases h

def joinL (l : List ByteArray) (sep : ByteArray) : List UInt8 := Lib.join (l.map (·.data.toList)) sep.data.toList
def strings_Join.f (l0 : List ByteArray) (a1 : ByteArray) : Option ByteArray := if (joinL l0 a1).length ≤ 140737488355328 then (if l0.length ≤ 140737488355328 then some ⟨(joinL l0 a1).toArray⟩ else none) else none
theorem strings_Join.calls (A0 : Option Addr) (c0 : Nat) (l0 : List ByteArray) (a1 : ByteArray) (r : ByteArray) (w : World) (hr0 : Kd.C Kd.string w A0 l0.length l0) (hc0 : l0.length ≤ c0) (h : strings_Join.f l0 a1 = some r) :
    Calls Try.prog 28 #[.slice A0 l0.length c0, .string a1] w fun e w' => e = .returned (.string r) ∧ Below w.heap.size w w' := by
  unfold strings_Join.f at h
  split at h
  · split at h
    · obtain rfl := Option.some.inj h
      rcases Nat.eq_zero_or_pos l0.length with hz | hz
      · obtain rfl : l0 = [] := List.eq_nil_of_length_eq_zero hz
        refine (Try.strings_Join_none A0 c0 a1 w).mono ?_
        rintro e w' ⟨rfl, rfl⟩
        exact ⟨rfl, Below.refl _ _⟩
      · obtain ⟨ad, rfl, h0⟩ := Kd.at_string hr0 0 (by omega) (by omega)
        have hsp : ad.spot = none := by
          have h0' : w.cell? ad = some (.string (rdOf ByteArray.empty l0 0)) := h0
          unfold World.cell? at h0'
          split at h0'
          · split at h0'
            · cases h0'
            · rename_i hs; simpa using hs
          · cases h0'
        obtain ⟨bk, o, sp⟩ := ad
        obtain rfl : sp = none := hsp
        refine Try.strings_Join bk o c0 l0 a1 w (fun j x hx => ?_) (World.block_lt_of_cell? w _ h0) ‹_› hc0 ‹_›
        have hj : j < l0.length := (List.getElem?_eq_some_iff.1 hx).1
        obtain ⟨ad, e, hc⟩ := Kd.at_string hr0 (j : Int) (by omega) (by omega)
        cases e
        have hadd : (⟨bk, o, none⟩ : Addr).add (j : Int).toNat = ⟨bk, o + j, none⟩ := by unfold Addr.add; split <;> simp_all
        rw [hadd] at hc
        rw [hc]
        simp only [rdOf, Int.toNat_natCast, List.getD_eq_getElem?_getD, hx, Option.getD_some]
    · cases h
  · cases h

def annalsref4_Escape.f (a0 : ByteArray) : Option ByteArray := if a0.size ≤ 35184372088832 then some (escB a0) else none
theorem annalsref4_Escape.calls (a0 : ByteArray) (r : ByteArray) (w : World) (h : annalsref4_Escape.f a0 = some r) :
    Calls Try.prog 60 #[.string a0] w fun e w' => e = .returned (.string r) ∧ Drawn0 w w' := by
  unfold annalsref4_Escape.f at h
  split at h
  · obtain rfl := Option.some.inj h
    refine (resc_calls a0 w ‹_›).mono ?_
    rintro e w' ⟨rfl, hn⟩
    exact ⟨rfl, ⟨hn⟩⟩
  · cases h

end Go.Proofs.Ytnpmkaklkonofaa.Hand
