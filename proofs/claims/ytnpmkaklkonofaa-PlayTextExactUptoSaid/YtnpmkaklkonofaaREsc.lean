/- The document's own Escape writes the same words. -/
import Derived.Test.YtnpmkaklkonofaaUnesc
import Derived.BigQuiet
namespace Go.Proofs.Ytnpmkaklkonofaa.Txt
open Go.RowKit Go.Proofs.YtnpmkaklkonofaaW.PrintWords Go.Proofs.YtnpmkaklkonofaaW.PrintLast

def bigB : ByteArray := ⟨#[48, 49, 50, 51, 52, 53, 54, 55, 56, 57, 65, 66, 67, 68, 69, 70]⟩
set_option maxRecDepth 100000 in
theorem big_cut (v : Nat) (h : v < 16) : bigB.extract v (v + 1) = ⟨#[hexU v]⟩ := by
  have key : ∀ m : Fin 16, (bigB.extract m.val (m.val + 1)).data.toList = [hexU m.val] := by decide +kernel
  exact ByteArray.ext (Array.toList_inj.1 (key ⟨v, h⟩))

set_option maxHeartbeats 400000 in
set_option maxRecDepth 100000 in
theorem rsign_calls (x : Int) (v : Nat) (hx : x = v) (h : v < 16) (w : World) :
    Calls Try.prog 62 #[.string ⟨#[48, 49, 50, 51, 52, 53, 54, 55, 56, 57, 65, 66, 67, 68, 69, 70]⟩, .int .i64 x] w fun e w' => e = .returned (.string ⟨#[hexU v]⟩) ∧ w' = w := by
  subst hx
  have hc := Lib.hid (big_cut v h)
  have e1 : ((v : Int)).toNat = v := by omega
  go_enter Try.func62, Try.ntmps62
  go_wp2
  go_ret
  exact ⟨by rw [← hc.out]; rfl, rfl⟩

theorem append_arr (l m : List UInt8) : (⟨l.toArray⟩ : ByteArray) ++ ⟨m.toArray⟩ = ⟨(l ++ m).toArray⟩ := by
  apply ByteArray.ext
  rw [ByteArray.data_append]
  simp
theorem size_arr (l : List UInt8) : (⟨l.toArray⟩ : ByteArray).size = l.length := by show l.toArray.size = _; simp
theorem cut_one (s : ByteArray) (k : Nat) (h : k < s.size) : s.extract k (k + 1) = ⟨[s[k]].toArray⟩ := by
  apply ByteArray.ext
  apply Array.toList_inj.1
  rw [ByteArray.data_extract, Array.toList_extract, List.extract_eq_take_drop, Nat.add_sub_cancel_left, List.drop_eq_getElem_cons (by rw [dsize]; exact h)]
  rfl

set_option maxHeartbeats 1000000 in
set_option maxRecDepth 100000 in
theorem resc_calls (s : ByteArray) (w : World) (hs : s.size ≤ 35184372088832) :
    Calls Try.prog 60 #[.string s] w fun e w' => e = .returned (.string (escB s)) ∧ ∃ n, w' = w.drewN n := by
  by_cases h0 : s.toList = []
  · have hb : escB s = ⟨#[37]⟩ := by
      have : s.data.toList = [] := by simpa [ByteArray.toList_eq] using h0
      unfold escB escL; rw [if_pos this]
    have HB := Lib.hid hb
    clear hb
    go_enter Try.func60, Try.ntmps60
    go_wp2
    go_ret
    exact ⟨by rw [HB.out]; rfl, 0, rfl⟩
  · have hb : escB s = ⟨((s.data.toList.take s.size).flatMap escC).toArray⟩ := by
      have : ¬ s.data.toList = [] := by simpa [ByteArray.toList_eq] using h0
      unfold escB escL; rw [if_neg this, List.take_of_length_le (by rw [dsize]; omega)]
    have HB := Lib.hid hb
    clear hb
    have h1 : s.toList.isEmpty = false := by simpa using h0
    go_enter Try.func60, Try.ntmps60
    go_wp2
    go_loopw [3, 4] (fun v3 v4 wr => ∃ (k : Nat) (x : ByteArray), v4 = .int .i64 k ∧ v3 = .string x ∧ k ≤ s.size ∧ x.size ≤ 3 * k ∧ Hid (x = ⟨((s.data.toList.take k).flatMap escC).toArray⟩) ∧ Hid (∃ n, wr = w.drewN n)) (fun _ v4 _ => s.size - (intOf v4).toNat)
    case atStart => exact ⟨0, ⟨#[]⟩, rfl, rfl, by omega, by decide, rfl, 0, rfl⟩
    case round =>
      obtain ⟨k, x, rfl, rfl, hk, hx, HX, HW⟩ := hrel
      by_cases hlt : k < s.size
      · have hb := s[k].toNat_lt
        have hnext := take_next s k hlt
        by_cases hin : 32 < s[k].toNat ∧ s[k].toNat < 127 ∧ s[k].toNat ≠ 37
        · have hX2 : Hid (x ++ s.extract k (k + 1) = ⟨((s.data.toList.take (k + 1)).flatMap escC).toArray⟩) := by
            show _ = _
            rw [HX.out, cut_one s k hlt, append_arr, hnext, List.flatMap_append]
            congr 2
            simp [escC, hin]
          have hsz : (x ++ s.extract k (k + 1)).size ≤ 3 * (k + 1) := by rw [ByteArray.size_append, cut_one s k hlt, size_arr [s[k]], List.length_singleton]; omega
          have b1 : decide ((s[k].toNat : Int) ≥ 33) = true := decide_eq_true (by omega)
          have b2 : decide ((s[k].toNat : Int) ≤ 126) = true := decide_eq_true (by omega)
          have b3 : ((s[k].toNat : Int) != 37) = true := by rw [bne_iff_ne]; omega
          have hfit : x.size + (s.extract k (k + 1)).size ≤ 9223372036854775807 := by rw [cut_one s k hlt, size_arr [s[k]], List.length_singleton]; omega
          have HS := Lib.hid hsz
          clear hnext hsz
          go_wp2
          go_roundw
          case rel => exact ⟨k + 1, _, by go_num, rfl, by omega, HS.out, hX2, HW⟩
          case measure => simp [intOf]; omega
        · have hX2 : Hid (((x ++ ⟨#[37]⟩) ++ ⟨#[hexU (s[k].toNat / 16)]⟩) ++ ⟨#[hexU (s[k].toNat % 16)]⟩ = ⟨((s.data.toList.take (k + 1)).flatMap escC).toArray⟩) := by
            show _ = _
            rw [HX.out, show (⟨#[37]⟩ : ByteArray) = ⟨[37].toArray⟩ from rfl, show (⟨#[hexU (s[k].toNat / 16)]⟩ : ByteArray) = ⟨[hexU (s[k].toNat / 16)].toArray⟩ from rfl, show (⟨#[hexU (s[k].toNat % 16)]⟩ : ByteArray) = ⟨[hexU (s[k].toNat % 16)].toArray⟩ from rfl, append_arr, append_arr, append_arr, hnext, List.flatMap_append]
            congr 2
            simp [escC, hin]
          have z1 : (⟨#[37]⟩ : ByteArray).size = 1 := rfl
          have z2 : (⟨#[hexU (s[k].toNat / 16)]⟩ : ByteArray).size = 1 := rfl
          have z3 : (⟨#[hexU (s[k].toNat % 16)]⟩ : ByteArray).size = 1 := rfl
          have hsz : (((x ++ ⟨#[37]⟩) ++ ⟨#[hexU (s[k].toNat / 16)]⟩) ++ ⟨#[hexU (s[k].toNat % 16)]⟩).size ≤ 3 * (k + 1) := by rw [ByteArray.size_append, ByteArray.size_append, ByteArray.size_append, z1, z2, z3]; omega
          have f1 : (9223372036854775807 < x.size + 1) = False := eq_false (by omega)
          have f2 : (9223372036854775807 < x.size + 1 + 1) = False := eq_false (by clear f1; omega)
          have f3 : (9223372036854775807 < x.size + 1 + 1 + 1) = False := eq_false (by clear f1 f2; omega)
          have HS := Lib.hid hsz
          have three : decide ((s[k].toNat : Int) ≥ 33) = false ∨ (decide ((s[k].toNat : Int) ≥ 33) = true ∧ decide ((s[k].toNat : Int) ≤ 126) = false) ∨ (decide ((s[k].toNat : Int) ≥ 33) = true ∧ decide ((s[k].toNat : Int) ≤ 126) = true ∧ ((s[k].toNat : Int) != 37) = false) := by
            by_cases h1 : (s[k].toNat : Int) ≥ 33
            · by_cases h2 : (s[k].toNat : Int) ≤ 126
              · exact .inr (.inr ⟨decide_eq_true h1, decide_eq_true h2, by rw [bne_eq_false_iff_eq]; omega⟩)
              · exact .inr (.inl ⟨decide_eq_true h1, decide_eq_false h2⟩)
            · exact .inl (decide_eq_false h1)
          clear hnext hsz z1 z2 z3
          rcases three with b1 | ⟨b1, b2⟩ | ⟨b1, b2, b3⟩
          all_goals
            go_wp2_with fail
            have m1 : Hid ((s[k].toNat : Int) / 16 = ((s[k].toNat / 16 : Nat) : Int) ∧ s[k].toNat / 16 < 16) := ⟨by omega, by omega⟩
            have m2 : Hid ((s[k].toNat : Int) % 16 = ((s[k].toNat % 16 : Nat) : Int) ∧ s[k].toNat % 16 < 16) := ⟨by omega, by omega⟩
            have q1 : IntKind.i64.wrap (s[k].toNat : Int) = (s[k].toNat : Int) := by rw [IntKind.wrap_i64]; omega
            have q2 : IntKind.i64.wrap ((s[k].toNat : Int) / 16) = (s[k].toNat : Int) / 16 := by clear q1; rw [IntKind.wrap_i64]; omega
            have j1 : (0 ≤ (k : Int) ∧ (k : Int) < (s.size : Int)) := by clear q1 q2; omega
            refine start_ (n := 17) (S := fun w' => True) (ds := []) #[false, false, false, false, false, false, false, false, false, false, false, false, false, false, false, false, false] (by kernel_rfl) rfl rfl trivial (fun hHeld => ?_)
            refine pure_ (i := 0) (N := some 36) (v := ?_) (a' := ?_) #[true, false, false, false, false, false, false, false, false, false, false, false, false, false, false, false, false] rfl rfl (by kernel_rfl) (fun _ _ _ h => h) (Or.inl ⟨by rfl, ?_⟩) ?_ ?_
            rotate_left
            · intro w'
              go_simp
              with_reducible rfl
            rotate_left
            · simp only [Act.put, List.setIfInBounds_toArray, List.set_cons_zero, List.set_cons_succ, i64_w, i32_w]
              rfl
            refine pure_ (i := 1) (N := some 37) (v := ?_) (a' := ?_) #[true, true, false, false, false, false, false, false, false, false, false, false, false, false, false, false, false] rfl rfl (by kernel_rfl) (fun _ _ _ h => h) (Or.inl ⟨by rfl, ?_⟩) ?_ ?_
            rotate_left
            · intro w'
              go_simp
              with_reducible rfl
            rotate_left
            · simp only [Act.put, List.setIfInBounds_toArray, List.set_cons_zero, List.set_cons_succ, i64_w, i32_w]
              rfl
            refine pure_ (i := 2) (N := some 38) (v := ?_) (a' := ?_) #[true, true, true, false, false, false, false, false, false, false, false, false, false, false, false, false, false] rfl rfl (by kernel_rfl) (fun _ _ _ h => h) (Or.inl ⟨by rfl, ?_⟩) ?_ ?_
            rotate_left
            · intro w'
              go_simp
              with_reducible rfl
            rotate_left
            · simp only [Act.put, List.setIfInBounds_toArray, List.set_cons_zero, List.set_cons_succ, i64_w, i32_w]
              rfl
            refine pure_ (i := 3) (N := some 39) (v := ?_) (a' := ?_) #[true, true, true, true, false, false, false, false, false, false, false, false, false, false, false, false, false] rfl rfl (by kernel_rfl) (fun _ _ _ h => h) (Or.inl ⟨by rfl, ?_⟩) ?_ ?_
            rotate_left
            · intro w'
              go_simp
              with_reducible rfl
            rotate_left
            · simp only [Act.put, List.setIfInBounds_toArray, List.set_cons_zero, List.set_cons_succ, i64_w, i32_w]
              rfl
            refine pure_ (i := 9) (N := some 45) (v := ?_) (a' := ?_) #[true, true, true, true, false, false, false, false, false, true, false, false, false, false, false, false, false] rfl rfl (by kernel_rfl) (fun _ _ _ h => h) (Or.inl ⟨by rfl, ?_⟩) ?_ ?_
            rotate_left
            · intro w'
              go_simp
              with_reducible rfl
            rotate_left
            · simp only [Act.put, List.setIfInBounds_toArray, List.set_cons_zero, List.set_cons_succ, i64_w, i32_w]
              rfl
            refine pure_ (i := 10) (N := some 46) (v := ?_) (a' := ?_) #[true, true, true, true, false, false, false, false, false, true, true, false, false, false, false, false, false] rfl rfl (by kernel_rfl) (fun _ _ _ h => h) (Or.inl ⟨by rfl, ?_⟩) ?_ ?_
            rotate_left
            · intro w'
              go_simp
              with_reducible rfl
            rotate_left
            · simp only [Act.put, List.setIfInBounds_toArray, List.set_cons_zero, List.set_cons_succ, i64_w, i32_w]
              rfl
            refine take_ (i := 4) (N := some 40) (v := ?_) (a' := ?_) #[true, true, true, true, true, false, false, false, false, true, true, false, false, false, false, false, false] rfl rfl (by kernel_rfl) (fun _ _ _ h => h) (Or.inl ⟨by rfl, ?_⟩) hHeld ?_ ?_
            rotate_left
            · intro w' _
              go_simp
              with_reducible rfl
            rotate_left
            · simp only [Act.put, List.setIfInBounds_toArray, List.set_cons_zero, List.set_cons_succ, i64_w, i32_w]
              rfl
            refine pure_ (i := 5) (N := some 41) (v := ?_) (a' := ?_) #[true, true, true, true, true, true, false, false, false, true, true, false, false, false, false, false, false] rfl rfl (by kernel_rfl) (fun _ _ _ h => h) (Or.inl ⟨by rfl, ?_⟩) ?_ ?_
            rotate_left
            · intro w'
              go_simp
              with_reducible rfl
            rotate_left
            · simp only [Act.put, List.setIfInBounds_toArray, List.set_cons_zero, List.set_cons_succ, i64_w, i32_w]
              rfl
            refine pure_ (i := 6) (N := some 42) (v := ?_) (a' := ?_) #[true, true, true, true, true, true, true, false, false, true, true, false, false, false, false, false, false] rfl rfl (by kernel_rfl) (fun _ _ _ h => h) (Or.inl ⟨by rfl, ?_⟩) ?_ ?_
            rotate_left
            · intro w'
              go_simp
              with_reducible rfl
            rotate_left
            · simp only [Act.put, List.setIfInBounds_toArray, List.set_cons_zero, List.set_cons_succ, i64_w, i32_w]
              rfl
            refine take_ (i := 11) (N := some 47) (v := ?_) (a' := ?_) #[true, true, true, true, true, true, true, false, false, true, true, true, false, false, false, false, false] rfl rfl (by kernel_rfl) (fun _ _ _ h => h) (Or.inl ⟨by rfl, ?_⟩) hHeld ?_ ?_
            rotate_left
            · intro w' _
              go_simp
              with_reducible rfl
            rotate_left
            · simp only [Act.put, List.setIfInBounds_toArray, List.set_cons_zero, List.set_cons_succ, i64_w, i32_w]
              rfl
            refine pure_ (i := 12) (N := some 48) (v := ?_) (a' := ?_) #[true, true, true, true, true, true, true, false, false, true, true, true, true, false, false, false, false] rfl rfl (by kernel_rfl) (fun _ _ _ h => h) (Or.inl ⟨by rfl, ?_⟩) ?_ ?_
            rotate_left
            · intro w'
              go_simp
              with_reducible rfl
            rotate_left
            · simp only [Act.put, List.setIfInBounds_toArray, List.set_cons_zero, List.set_cons_succ, i64_w, i32_w]
              rfl
            refine pure_ (i := 13) (N := some 49) (v := ?_) (a' := ?_) #[true, true, true, true, true, true, true, false, false, true, true, true, true, true, false, false, false] rfl rfl (by kernel_rfl) (fun _ _ _ h => h) (Or.inl ⟨by rfl, ?_⟩) ?_ ?_
            rotate_left
            · intro w'
              go_simp
              with_reducible rfl
            rotate_left
            · simp only [Act.put, List.setIfInBounds_toArray, List.set_cons_zero, List.set_cons_succ, i64_w, i32_w]
              rfl
            refine one_ (i := 7) (N := some 43) #[true, true, true, true, true, true, true, true, false, true, true, true, true, true, false, false, false] rfl rfl (by kernel_rfl) (by decide) (fun K hK => ?_)
            refine goes_ Try.func62 (by kernel_rfl) rfl #[.string ⟨#[48, 49, 50, 51, 52, 53, 54, 55, 56, 57, 65, 66, 67, 68, 69, 70]⟩, .int .i64 ((s[k].toNat : Int) / 16)] (by rfl) rfl rfl (by simp only [List.map_toArray, List.map_cons, List.map_nil]; rfl) ?_
            with_reducible refine (rsign_calls ((s[k].toNat : Int) / 16) (s[k].toNat / 16) m1.out.1 m1.out.2 _).mono ?_
            rintro e w3 ⟨rfl, rfl⟩
            refine ⟨_, rfl, ?_⟩
            refine hK.out _ _ trivial (fun hHeld => ?_)
            clear hK K
            refine norm_ (a' := ?_) ?_ ?_
            rotate_left
            · show Act.put _ (some 43) _ = _
              simp only [Act.put, List.setIfInBounds_toArray, List.set_cons_zero, List.set_cons_succ, i64_w, i32_w]
              rfl
            refine pure_ (i := 8) (N := some 44) (v := ?_) (a' := ?_) #[true, true, true, true, true, true, true, true, true, true, true, true, true, true, false, false, false] rfl rfl (by kernel_rfl) (fun _ _ _ h => h) (Or.inl ⟨by rfl, ?_⟩) ?_ ?_
            rotate_left
            · intro w'
              go_simp
              with_reducible rfl
            rotate_left
            · simp only [Act.put, List.setIfInBounds_toArray, List.set_cons_zero, List.set_cons_succ, i64_w, i32_w]
              rfl
            refine one_ (i := 14) (N := some 50) #[true, true, true, true, true, true, true, true, true, true, true, true, true, true, true, false, false] rfl rfl (by kernel_rfl) (by decide) (fun K hK => ?_)
            refine goes_ Try.func62 (by kernel_rfl) rfl #[.string ⟨#[48, 49, 50, 51, 52, 53, 54, 55, 56, 57, 65, 66, 67, 68, 69, 70]⟩, .int .i64 ((s[k].toNat : Int) % 16)] (by rfl) rfl rfl (by simp only [List.map_toArray, List.map_cons, List.map_nil]; rfl) ?_
            with_reducible refine (rsign_calls ((s[k].toNat : Int) % 16) (s[k].toNat % 16) m2.out.1 m2.out.2 _).mono ?_
            rintro e w3 ⟨rfl, rfl⟩
            refine ⟨_, rfl, ?_⟩
            refine hK.out _ _ trivial (fun hHeld => ?_)
            clear hK K
            refine norm_ (a' := ?_) ?_ ?_
            rotate_left
            · show Act.put _ (some 50) _ = _
              simp only [Act.put, List.setIfInBounds_toArray, List.set_cons_zero, List.set_cons_succ, i64_w, i32_w]
              rfl
            refine pure_ (i := 15) (N := some 51) (v := ?_) (a' := ?_) #[true, true, true, true, true, true, true, true, true, true, true, true, true, true, true, true, false] rfl rfl (by kernel_rfl) (fun _ _ _ h => h) (Or.inl ⟨by rfl, ?_⟩) ?_ ?_
            rotate_left
            · intro w'
              go_simp
              with_reducible rfl
            rotate_left
            · simp only [Act.put, List.setIfInBounds_toArray, List.set_cons_zero, List.set_cons_succ, i64_w, i32_w]
              rfl
            refine pure_ (i := 16) (N := some 3) (v := ?_) (a' := ?_) #[true, true, true, true, true, true, true, true, true, true, true, true, true, true, true, true, true] rfl rfl (by kernel_rfl) (fun _ _ _ h => h) (Or.inl ⟨by rfl, ?_⟩) ?_ ?_
            rotate_left
            · intro w'
              go_simp
              with_reducible rfl
            rotate_left
            · simp only [Act.put, List.setIfInBounds_toArray, List.set_cons_zero, List.set_cons_succ, i64_w, i32_w]
              rfl
            refine done_ (by kernel_rfl) ?_
            clear q1 q2 f1 f2 f3
            go_wp2
            go_roundw
            case rel => exact ⟨k + 1, _, by go_num, rfl, by omega, HS.out, hX2, by obtain ⟨n, hn⟩ := HW.out; exact ⟨n + 1, by rw [hn]; rfl⟩⟩
            case measure => simp [intOf]; omega
      · obtain rfl : k = s.size := by omega
        go_wp2
        go_ret
        exact ⟨by rw [HB.out, ← HX.out]; rfl, HW.out⟩

end Go.Proofs.Ytnpmkaklkonofaa.Txt
