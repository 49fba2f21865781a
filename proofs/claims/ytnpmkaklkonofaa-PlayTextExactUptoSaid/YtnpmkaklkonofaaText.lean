/- play.Text: the script of steps. -/
import Derived.Test.YtnpmkaklkonofaaWords
import Derived.Test.YtnpmkaklkonofaaREsc
namespace Go.Proofs.Ytnpmkaklkonofaa.Txt
open Go.RowKit Go.Proofs.YtnpmkaklkonofaaW.PrintWords Go.Proofs.YtnpmkaklkonofaaW.PrintLast Go.Proofs.Ytnpmkaklkonofaa.Hand Go.Proofs.Ytnpmkaklkonofaa.Q

def optsOf (s : S52) : List Int := [s.f3.f0, s.f3.f1, s.f3.f2, s.f3.f3, s.f3.f4, s.f3.f5]
def inI64 (x : Int) : Bool := decide (-9223372036854775808 ≤ x ∧ x ≤ 9223372036854775807)
/-- A step whose numbers are int's and whose texts are not too long. -/
def okStep (s : S52) : Bool := decide (s.f1.length ≤ 1073741824) && decide (s.f2.length ≤ 1073741824) && s.f1.all inI64 && (optsOf s).all inI64 && s.f2.all (fun x => decide (x.size ≤ 35184372088832))
/-- A step's line; of a kind that there is not: nothing. -/
def stepLine (s : S52) : List UInt8 := if 1 ≤ s.f0 ∧ s.f0 < 35 then joinL (stepWords s.f0.toNat s.f1 s.f2 (optsOf s)) ⟨#[32]⟩ ++ [10] else []
def textL (l : List S52) : List UInt8 := l.flatMap stepLine

theorem okStep_spec {s : S52} (h : okStep s = true) : s.f1.length ≤ 1073741824 ∧ s.f2.length ≤ 1073741824 ∧ (∀ i, -9223372036854775808 ≤ s.f1.getD i 0 ∧ s.f1.getD i 0 ≤ 9223372036854775807) ∧ (∀ x ∈ optsOf s, -9223372036854775808 ≤ x ∧ x ≤ 9223372036854775807) ∧ ∀ i, (s.f2.getD i ByteArray.empty).size ≤ 35184372088832 := by
  simp only [okStep, Bool.and_eq_true, decide_eq_true_eq, List.all_eq_true, inI64] at h
  obtain ⟨⟨⟨⟨h1, h2⟩, h3⟩, h4⟩, h5⟩ := h
  refine ⟨h1, h2, fun i => ?_, h4, fun i => ?_⟩
  · rw [List.getD_eq_getElem?_getD]
    cases hi : s.f1[i]? with
    | none => exact ⟨by decide, by decide⟩
    | some y => exact h3 y (List.mem_of_getElem? hi)
  · rw [List.getD_eq_getElem?_getD]
    cases hi : s.f2[i]? with
    | none => exact Nat.zero_le _
    | some y => exact h5 y (List.mem_of_getElem? hi)

theorem fold_len (N : List Int) (S : List ByteArray) (o : List Int) : ∀ (cs : List UInt8) (x : WSt), (cs.foldl (wstep N S o) x).out.length ≤ x.out.length + cs.length * (1 + o.length + N.length + S.length)
  | [], x => by simp
  | c :: cs, x => by
    have h1 := fold_len N S o cs (wstep N S o x c)
    have h2 := (wstep_bounds N S o x c).1
    rw [List.foldl_cons, List.length_cons, Nat.succ_mul]
    omega
theorem stepWords_len (kind : Nat) (hk : kind < 35) (N : List Int) (S : List ByteArray) (o : List Int) : (stepWords kind N S o).length ≤ 1 + 5 * (1 + o.length + N.length + S.length) := by
  have h1 := fold_len N S o (shapeT.getD kind ([], [])).2 ⟨[⟨(shapeT.getD kind ([], [])).1.toArray⟩], 0, 0⟩
  have h2 := (wants_ok kind hk).2
  have h3 := Nat.mul_le_mul_right (1 + o.length + N.length + S.length) h2
  unfold stepWords wordsOf
  simp only [List.length_singleton] at h1
  omega

theorem words_calls' (x : Int) (kind : Nat) (hx : x = kind) (hk : kind < 35) (N : List Int) (S : List ByteArray) (o0 o1 o2 o3 o4 o5 : Int) (AN AS : Option Addr) (cN cS : Nat) (w : World)
    (hN : Kd.C (Kd.int .i64) w AN N.length N) (hcN : N.length ≤ cN) (hS : Kd.C Kd.string w AS S.length S) (hcS : S.length ≤ cS)
    (hNr : ∀ i, -9223372036854775808 ≤ N.getD i 0 ∧ N.getD i 0 ≤ 9223372036854775807) (hOr : ∀ x ∈ [o0, o1, o2, o3, o4, o5], -9223372036854775808 ≤ x ∧ x ≤ 9223372036854775807) (hSr : ∀ i, (S.getD i ByteArray.empty).size ≤ 35184372088832) (hNl : N.length ≤ 1073741824) (hSl : S.length ≤ 1073741824) :
    Calls Try.prog 29 #[.agg #[.int .i64 x, .slice AN N.length cN, .slice AS S.length cS, .int .i64 o0, .int .i64 o1, .int .i64 o2, .int .i64 o3, .int .i64 o4, .int .i64 o5]] w fun e w' =>
      ∃ v, e = .returned v ∧ Kd.R Kd.string 9 w' w.heap.size (fun _ => True) v (stepWords kind N S [o0, o1, o2, o3, o4, o5]) ∧ Below w.heap.size w w' := by
  subst hx
  exact words_calls kind hk N S o0 o1 o2 o3 o4 o5 AN AS cN cS w hN hcN hS hcS hNr hOr hSr hNl hSl

/-- The builder holds these bytes. -/
structure TWorld (b : Nat) (acc : List UInt8) (w wr : World) : Prop where
  isB : Lib.IsBuilder 58 5 w.heap.size b (Lib.byteCells acc) wr
  below : Below w.heap.size w wr
theorem isB_call {B b : Nat} {bs : List Value} {wr w1 : World} (h : Lib.IsBuilder 58 5 B b bs wr) (hb : Below wr.heap.size wr w1) : Lib.IsBuilder 58 5 B b bs w1 := by
  have one : ∀ p, Lib.BuilderAt 58 5 B b p bs wr → Lib.BuilderAt 58 5 B b p bs w1 := by
    rintro p ⟨h1, v, h2, h3, h4⟩
    exact ⟨h1, v, (hb.block _ (lt_of_block h2)).trans h2, pw_own_below h3 hb, h4⟩
  exact h.imp (one _) (one _)
theorem TWorld.call {b : Nat} {acc : List UInt8} {w wr w1 : World} (h : TWorld b acc w wr) (hb : Below wr.heap.size wr w1) : TWorld b acc w w1 := ⟨isB_call h.isB hb, h.below.trans (hb.mono h.below.size)⟩
theorem TWorld.write {b : Nat} {acc acc' : List UInt8} {w wr w1 : World} (h : TWorld b acc w wr) (hI : Lib.BuilderAt 58 5 w.heap.size b (.pointer (some ⟨b, 0, none⟩)) (Lib.byteCells acc') w1) (hb : Below w.heap.size wr w1) : TWorld b acc' w w1 := ⟨.inr hI, h.below.trans hb⟩

set_option maxHeartbeats 1000000 in
set_option maxRecDepth 100000 in
theorem text_calls (A : Option Addr) (c : Nat) (l : List S52) (w : World) (hr : Kd.C k52 w A l.length l) (hc : l.length ≤ c) (hok : ∀ s ∈ l, okStep s = true) (hlen : (textL l).length ≤ 100000000000000) :
    Calls Try.prog 8 #[.slice A l.length c] w fun e w' => e = .returned (.string ⟨(textL l).toArray⟩) ∧ Below w.heap.size w w' := by
  have HR := Lib.hid hr
  have HOK := Lib.hid hok
  have hl63 : (l.length : Int) ≤ 9223372036854775807 := by have := hr.2.1; omega
  clear hr hok
  go_enter Try.func8, Try.ntmps8
  go_wp2
  have hst : Hid (TWorld w.heap.size [] w (w.alloc (.cells #[.pointer none, .slice none 0 0] 58))) :=
    ⟨.inl ⟨Nat.le_refl _, .slice none 0 0, heap_alloc_new w _, own_nil _ _ _ _, by simp [Value.ownBlock]⟩, (Below.refl _ _).alloc (Nat.le_refl _) _⟩
  go_loopg [8] l.length (fun gk v8 wr => ∃ i : Int, v8 = .int .i64 i ∧ 0 ≤ i ∧ i ≤ l.length ∧ gk + i.toNat = l.length ∧ Hid (TWorld w.heap.size ((l.take i.toNat).flatMap stepLine) w wr))
  case atStart => exact ⟨0, rfl, by omega, by omega, by simp, hst⟩
  case round =>
    clear hst
    obtain ⟨i, rfl, hi0, hi1, hgk, HW⟩ := hrel
    by_cases hlt : i < l.length
    · obtain ⟨gk', rfl⟩ : ∃ m, gk = m + 1 := ⟨gk - 1, by omega⟩
      obtain ⟨ad, A1, c1, A2, c2, e, h0, h1, h2, h3, h4, h5, h6, h7, h8, l1, g1, l2, g2⟩ := at_T52 (Kd.C_below HR.out HW.out.below) i hi0 hlt
      subst e
      have hmem : rd_T52 l i ∈ l := by
        unfold rd_T52
        rw [List.getD_eq_getElem?_getD, List.getElem?_eq_getElem (by omega)]
        exact List.getElem_mem _
      have hok := okStep_spec (HOK.out _ hmem)
      have hnext : l.take (i.toNat + 1) = l.take i.toNat ++ [rd_T52 l i] := by
        rw [List.take_succ_eq_append_getElem (by omega)]
        unfold rd_T52
        rw [List.getD_eq_getElem?_getD, List.getElem?_eq_getElem (by omega)]; rfl
      have hacc : (l.take (i.toNat + 1)).flatMap stepLine = (l.take i.toNat).flatMap stepLine ++ stepLine (rd_T52 l i) := by rw [hnext, List.flatMap_append]; simp
      have hall : ((l.take (i.toNat + 1)).flatMap stepLine).length ≤ (textL l).length := by
        have e : textL l = (l.take (i.toNat + 1)).flatMap stepLine ++ (l.drop (i.toNat + 1)).flatMap stepLine := by rw [← List.flatMap_append, List.take_append_drop]; rfl
        rw [e, List.length_append]; omega
      rw [hacc, List.length_append] at hall
      have HACC := Lib.hid hacc
      clear hnext hacc hmem
      generalize rd_T52 l i = s at *
      generalize (l.take i.toNat).flatMap stepLine = acc at *
      have HOKs := Lib.hid hok
      have G1 := Lib.hid g1
      have G2 := Lib.hid g2
      have hall2 : acc.length + (stepLine s).length ≤ 100000000000000 := by omega
      clear hok g1 g2 hall hlen
      go_wp2_with fail
      obtain ⟨W, hW, hA, hB⟩ : ∃ W, wr.alloc (.cells #[.int .i64 s.f0, .slice A1 s.f1.length c1, .slice A2 s.f2.length c2, .int .i64 s.f3.f0, .int .i64 s.f3.f1, .int .i64 s.f3.f2, .int .i64 s.f3.f3, .int .i64 s.f3.f4, .int .i64 s.f3.f5] 52) = W ∧ W.heap[wr.heap.size]? = some (.cells #[.int .i64 s.f0, .slice A1 s.f1.length c1, .slice A2 s.f2.length c2, .int .i64 s.f3.f0, .int .i64 s.f3.f1, .int .i64 s.f3.f2, .int .i64 s.f3.f3, .int .i64 s.f3.f4, .int .i64 s.f3.f5] 52 (0, 0)) ∧ Below wr.heap.size wr W := ⟨_, rfl, heap_alloc_new wr _, (Below.refl _ _).alloc (Nat.le_refl _) _⟩
      rw [hW]
      have hT := Lib.hid (HW.out.call hB)
      have HA := Lib.hid hA
      have HB := Lib.hid hB
      have b0 : W.cell? ⟨wr.heap.size, 0, none⟩ = some (.int .i64 s.f0) := cell_of_row W _ 0 _ _ _ hA
      clear hW hA hB h0 h1 h2 h3 h4 h5 h6 h7 h8 HW
      by_cases hk1 : 1 ≤ s.f0
      · have k1 : decide (s.f0 ≥ 1) = true := decide_eq_true hk1
        by_cases hk2 : s.f0 < 35
        · have k2 : decide (s.f0 < 35) = true := decide_eq_true hk2
          refine start_ (n := 10) (S := fun w' => w'.cell? ⟨wr.heap.size, 0, none⟩ = some (.int .i64 s.f0)) (ds := []) #[false, false, false, false, false, false, false, false, false, false] (by kernel_rfl) rfl rfl (by go_simp) (fun hHeld => ?_)
          refine pure_ (i := 0) (N := some 12) (v := ?_) (a' := ?_) #[true, false, false, false, false, false, false, false, false, false] rfl rfl (by kernel_rfl) (fun _ _ _ h => h) (Or.inl ⟨by rfl, ?_⟩) ?_ ?_
          rotate_left
          · intro w'
            go_simp
            with_reducible rfl
          rotate_left
          · simp only [Act.put, List.setIfInBounds_toArray, List.set_cons_zero, List.set_cons_succ, i64_w, i32_w]
            rfl
          refine take_ (i := 1) (N := some 13) (v := ?_) (a' := ?_) #[true, true, false, false, false, false, false, false, false, false] rfl rfl (by kernel_rfl) (fun _ _ _ h => h) (Or.inl ⟨by rfl, ?_⟩) hHeld ?_ ?_
          rotate_left
          · intro w' s0
            go_simp
            with_reducible rfl
          rotate_left
          · simp only [Act.put, List.setIfInBounds_toArray, List.set_cons_zero, List.set_cons_succ, i64_w, i32_w]
            rfl
          refine pure_ (i := 2) (N := some 14) (v := ?_) (a' := ?_) #[true, true, true, false, false, false, false, false, false, false] rfl rfl (by kernel_rfl) (fun _ _ _ h => h) (Or.inl ⟨by rfl, ?_⟩) ?_ ?_
          rotate_left
          · intro w'
            go_simp
            with_reducible rfl
          rotate_left
          · simp only [Act.put, List.setIfInBounds_toArray, List.set_cons_zero, List.set_cons_succ, i64_w, i32_w]
            rfl
          refine pure_ (i := 3) (N := some 15) (v := ?_) (a' := ?_) #[true, true, true, true, false, false, false, false, false, false] rfl rfl (by kernel_rfl) (fun _ _ _ h => h) (Or.inl ⟨by rfl, ?_⟩) ?_ ?_
          rotate_left
          · intro w'
            go_simp
            with_reducible rfl
          rotate_left
          · simp only [Act.put, List.setIfInBounds_toArray, List.set_cons_zero, List.set_cons_succ, i64_w, i32_w]
            rfl
          refine pure_ (i := 4) (N := some 16) (v := ?_) (a' := ?_) #[true, true, true, true, true, false, false, false, false, false] rfl rfl (by kernel_rfl) (fun _ _ _ h => h) (Or.inl ⟨by rfl, ?_⟩) ?_ ?_
          rotate_left
          · intro w'
            go_simp
            with_reducible rfl
          rotate_left
          · simp only [Act.put, List.setIfInBounds_toArray, List.set_cons_zero, List.set_cons_succ, i64_w, i32_w]
            rfl
          refine take_ (i := 5) (N := some 17) (v := ?_) (a' := ?_) #[true, true, true, true, true, true, false, false, false, false] rfl rfl (by kernel_rfl) (fun _ _ _ h => h) (Or.inl ⟨by rfl, ?_⟩) hHeld ?_ ?_
          rotate_left
          · intro w' s0
            go_simp
            with_reducible rfl
          rotate_left
          · simp only [Act.put, List.setIfInBounds_toArray, List.set_cons_zero, List.set_cons_succ, i64_w, i32_w]
            rfl
          refine one_ (i := 6) (N := some 18) #[true, true, true, true, true, true, true, false, false, false] rfl rfl (by kernel_rfl) (by decide) (fun K hK => ?_)
          refine goes_ Try.func26 (by kernel_rfl) rfl #[] (by rfl) rfl rfl (by simp only [List.map_toArray, List.map_nil]) ?_
          with_reducible refine (shapes_calls _).mono ?_
          rintro e w3 ⟨rfl, hb⟩
          refine ⟨_, rfl, ?_⟩
          have hb3 : Below W.heap.size W w3 := ⟨hb.os, hb.tape, hb.output, hb.size, hb.block⟩
          have hA3 := Lib.hid ((hb3.block _ (lt_of_block HA.out)).trans HA.out)
          have hT3 := Lib.hid (hT.out.call hb3)
          have HB3 := Lib.hid (HB.out.trans (hb3.mono HB.out.size))
          refine hK.out _ _ ((hb3.cell (World.block_lt_of_cell? _ _ b0)).trans b0) (fun hHeld => ?_)
          clear hK K
          refine norm_ (a' := ?_) ?_ ?_
          rotate_left
          · show Act.put _ (some 18) _ = _
            simp only [Act.put, List.setIfInBounds_toArray, List.set_cons_zero, List.set_cons_succ, i64_w, i32_w]
            rfl
          refine pure_ (i := 7) (N := some 19) (v := ?_) (a' := ?_) #[true, true, true, true, true, true, true, true, false, false] rfl rfl (by kernel_rfl) (fun _ _ _ h => h) (Or.inl ⟨by rfl, ?_⟩) ?_ ?_
          rotate_left
          · intro w'
            go_simp
            with_reducible rfl
          rotate_left
          · simp only [Act.put, List.setIfInBounds_toArray, List.set_cons_zero, List.set_cons_succ, i64_w, i32_w]
            rfl
          refine pure_ (i := 8) (N := some 20) (v := ?_) (a' := ?_) #[true, true, true, true, true, true, true, true, true, false] rfl rfl (by kernel_rfl) (fun _ _ _ h => h) (Or.inl ⟨by rfl, ?_⟩) ?_ ?_
          rotate_left
          · intro w'
            go_simp
            with_reducible rfl
          rotate_left
          · simp only [Act.put, List.setIfInBounds_toArray, List.set_cons_zero, List.set_cons_succ, i64_w, i32_w]
            rfl
          refine pure_ (i := 9) (N := some 21) (v := ?_) (a' := ?_) #[true, true, true, true, true, true, true, true, true, true] rfl rfl (by kernel_rfl) (fun _ _ _ h => h) (Or.inl ⟨by rfl, ?_⟩) ?_ ?_
          rotate_left
          · intro w'
            go_simp
            with_reducible rfl
          rotate_left
          · simp only [Act.put, List.setIfInBounds_toArray, List.set_cons_zero, List.set_cons_succ, i64_w, i32_w]
            rfl
          refine done_ (by kernel_rfl) ?_
          have d0 : w3.cell? ⟨wr.heap.size, 0, none⟩ = some (.int .i64 s.f0) := cell_of_row w3 _ 0 _ _ _ hA3.out
          have d1 : w3.cell? ⟨wr.heap.size, 1, none⟩ = some (.slice A1 s.f1.length c1) := cell_of_row w3 _ 1 _ _ _ hA3.out
          have d2 : w3.cell? ⟨wr.heap.size, 2, none⟩ = some (.slice A2 s.f2.length c2) := cell_of_row w3 _ 2 _ _ _ hA3.out
          have d3 : w3.cell? ⟨wr.heap.size, 3, none⟩ = some (.int .i64 s.f3.f0) := cell_of_row w3 _ 3 _ _ _ hA3.out
          have d4 : w3.cell? ⟨wr.heap.size, 4, none⟩ = some (.int .i64 s.f3.f1) := cell_of_row w3 _ 4 _ _ _ hA3.out
          have d5 : w3.cell? ⟨wr.heap.size, 5, none⟩ = some (.int .i64 s.f3.f2) := cell_of_row w3 _ 5 _ _ _ hA3.out
          have d6 : w3.cell? ⟨wr.heap.size, 6, none⟩ = some (.int .i64 s.f3.f3) := cell_of_row w3 _ 6 _ _ _ hA3.out
          have d7 : w3.cell? ⟨wr.heap.size, 7, none⟩ = some (.int .i64 s.f3.f4) := cell_of_row w3 _ 7 _ _ _ hA3.out
          have d8 : w3.cell? ⟨wr.heap.size, 8, none⟩ = some (.int .i64 s.f3.f5) := cell_of_row w3 _ 8 _ _ _ hA3.out
          have hline : stepLine s = joinL (stepWords s.f0.toNat s.f1 s.f2 (optsOf s)) ⟨#[32]⟩ ++ [10] := by unfold stepLine; rw [if_pos ⟨hk1, hk2⟩]
          have hwl := stepWords_len s.f0.toNat (by omega) s.f1 s.f2 (optsOf s)
          have hol : (optsOf s).length = 6 := rfl
          have hb1 := HOKs.out.1
          have hb2 := HOKs.out.2.1
          rw [hol] at hwl
          rw [hline, List.length_append] at hall2
          have hjf : strings_Join.f (stepWords s.f0.toNat s.f1 s.f2 (optsOf s)) ⟨#[32]⟩ = some ⟨(joinL (stepWords s.f0.toNat s.f1 s.f2 (optsOf s)) ⟨#[32]⟩).toArray⟩ := by
            unfold strings_Join.f
            rw [if_pos (by omega), if_pos (by omega)]
          have hall3 : acc.length + ((joinL (stepWords s.f0.toNat s.f1 s.f2 (optsOf s)) ⟨#[32]⟩).length + 1) ≤ 100000000000000 := hall2
          have HJ := Lib.hid hjf
          have HL := Lib.hid hline
          clear hjf hline hwl hol hb1 hb2 hall2
          go_wp2_with fail
          refine (words_calls' s.f0 s.f0.toNat (by omega) (by omega) s.f1 s.f2 s.f3.f0 s.f3.f1 s.f3.f2 s.f3.f3 s.f3.f4 s.f3.f5 A1 A2 c1 c2 _ (Kd.C_below G1.out HB3.out) l1 (Kd.C_below G2.out HB3.out) l2 HOKs.out.2.2.1 HOKs.out.2.2.2.1 HOKs.out.2.2.2.2 HOKs.out.1 HOKs.out.2.1).mono ?_
          rintro e w5 ⟨v5, rfl, hR5, hb5⟩
          obtain ⟨Av, cv, rfl, hlv, hCv⟩ := Kd.R_reads hR5
          have hT5 := Lib.hid (hT3.out.call hb5)
          have HCv := Lib.hid hCv
          clear hR5 hb5 hCv d0 d1 d2 d3 d4 d5 d6 d7 d8 b0
          go_wp2_with fail
          refine (strings_Join.calls Av cv _ ⟨#[32]⟩ _ _ HCv.out hlv HJ.out).mono ?_
          rintro e w6 ⟨rfl, hb6⟩
          have hT6 := Lib.hid (hT5.out.call hb6)
          have hxs : (⟨(joinL (stepWords s.f0.toNat s.f1 s.f2 (optsOf s)) ⟨#[32]⟩).toArray⟩ : ByteArray).size = (joinL (stepWords s.f0.toNat s.f1 s.f2 (optsOf s)) ⟨#[32]⟩).length := size_arr _
          have HX : Hid ((⟨(joinL (stepWords s.f0.toNat s.f1 s.f2 (optsOf s)) ⟨#[32]⟩).toArray⟩ : ByteArray) ++ ⟨#[10]⟩ = ⟨(stepLine s).toArray⟩) := by
            show _ = _
            rw [HL.out]; exact append_arr _ [10]
          have hlen2 : acc.length + (stepLine s).length ≤ 140737488355328 := by rw [HL.out, List.length_append, List.length_singleton]; omega
          clear hb6 hlv
          generalize (⟨(joinL (stepWords s.f0.toNat s.f1 s.f2 (optsOf s)) ⟨#[32]⟩).toArray⟩ : ByteArray) = xs at *
          have hfit : xs.size + 1 ≤ 9223372036854775807 := by omega
          have hfit2 : (9223372036854775807 < xs.size + 1) = False := eq_false (by omega)
          clear hxs hall3
          go_wp2_with fail
          rw [HX.out]
          refine (writeString_calls w.heap.size w.heap.size _ ⟨(stepLine s).toArray⟩ _ hT6.out.isB (by rw [Lib.byteCells_length, size_arr]; exact hlen2) hT6.out.below.size).mono ?_
          rintro e w7 ⟨rfl, hI7, hb7⟩
          have hT7 : Hid (TWorld w.heap.size (acc ++ stepLine s) w w7) := hT6.out.write (by rw [Lib.byteCells_append]; exact hI7) hb7
          clear hI7 hb7 hfit hfit2
          go_wp2
          go_roundg gk'
          case rel => exact ⟨i + 1, rfl, by omega, by omega, by omega, by rw [show (i + 1).toNat = i.toNat + 1 by omega, HACC.out]; exact hT7⟩
          case measure => omega
        · have k2 : decide (s.f0 < 35) = false := decide_eq_false hk2
          have HL := Lib.hid (show stepLine s = [] by unfold stepLine; rw [if_neg (fun h => hk2 h.2)])
          refine start_ (n := 10) (S := fun w' => w'.cell? ⟨wr.heap.size, 0, none⟩ = some (.int .i64 s.f0)) (ds := []) #[false, false, false, false, false, false, false, false, false, false] (by kernel_rfl) rfl rfl (by go_simp) (fun hHeld => ?_)
          refine pure_ (i := 0) (N := some 12) (v := ?_) (a' := ?_) #[true, false, false, false, false, false, false, false, false, false] rfl rfl (by kernel_rfl) (fun _ _ _ h => h) (Or.inl ⟨by rfl, ?_⟩) ?_ ?_
          rotate_left
          · intro w'
            go_simp
            with_reducible rfl
          rotate_left
          · simp only [Act.put, List.setIfInBounds_toArray, List.set_cons_zero, List.set_cons_succ, i64_w, i32_w]
            rfl
          refine take_ (i := 1) (N := some 13) (v := ?_) (a' := ?_) #[true, true, false, false, false, false, false, false, false, false] rfl rfl (by kernel_rfl) (fun _ _ _ h => h) (Or.inl ⟨by rfl, ?_⟩) hHeld ?_ ?_
          rotate_left
          · intro w' s0
            go_simp
            with_reducible rfl
          rotate_left
          · simp only [Act.put, List.setIfInBounds_toArray, List.set_cons_zero, List.set_cons_succ, i64_w, i32_w]
            rfl
          refine pure_ (i := 2) (N := some 14) (v := ?_) (a' := ?_) #[true, true, true, false, false, false, false, false, false, false] rfl rfl (by kernel_rfl) (fun _ _ _ h => h) (Or.inl ⟨by rfl, ?_⟩) ?_ ?_
          rotate_left
          · intro w'
            go_simp
            with_reducible rfl
          rotate_left
          · simp only [Act.put, List.setIfInBounds_toArray, List.set_cons_zero, List.set_cons_succ, i64_w, i32_w]
            rfl
          refine pure_ (i := 3) (N := some 15) (v := ?_) (a' := ?_) #[true, true, true, true, false, false, false, false, false, false] rfl rfl (by kernel_rfl) (fun _ _ _ h => h) (Or.inl ⟨by rfl, ?_⟩) ?_ ?_
          rotate_left
          · intro w'
            go_simp
            with_reducible rfl
          rotate_left
          · simp only [Act.put, List.setIfInBounds_toArray, List.set_cons_zero, List.set_cons_succ, i64_w, i32_w]
            rfl
          refine pure_ (i := 4) (N := some 16) (v := ?_) (a' := ?_) #[true, true, true, true, true, false, false, false, false, false] rfl rfl (by kernel_rfl) (fun _ _ _ h => h) (Or.inl ⟨by rfl, ?_⟩) ?_ ?_
          rotate_left
          · intro w'
            go_simp
            with_reducible rfl
          rotate_left
          · simp only [Act.put, List.setIfInBounds_toArray, List.set_cons_zero, List.set_cons_succ, i64_w, i32_w]
            rfl
          refine take_ (i := 5) (N := some 17) (v := ?_) (a' := ?_) #[true, true, true, true, true, true, false, false, false, false] rfl rfl (by kernel_rfl) (fun _ _ _ h => h) (Or.inl ⟨by rfl, ?_⟩) hHeld ?_ ?_
          rotate_left
          · intro w' s0
            go_simp
            with_reducible rfl
          rotate_left
          · simp only [Act.put, List.setIfInBounds_toArray, List.set_cons_zero, List.set_cons_succ, i64_w, i32_w]
            rfl
          refine one_ (i := 6) (N := some 18) #[true, true, true, true, true, true, true, false, false, false] rfl rfl (by kernel_rfl) (by decide) (fun K hK => ?_)
          refine goes_ Try.func26 (by kernel_rfl) rfl #[] (by rfl) rfl rfl (by simp only [List.map_toArray, List.map_nil]) ?_
          with_reducible refine (shapes_calls _).mono ?_
          rintro e w3 ⟨rfl, hb⟩
          refine ⟨_, rfl, ?_⟩
          have hb3 : Below W.heap.size W w3 := ⟨hb.os, hb.tape, hb.output, hb.size, hb.block⟩
          have hA3 := Lib.hid ((hb3.block _ (lt_of_block HA.out)).trans HA.out)
          have hT3 := Lib.hid (hT.out.call hb3)
          have HB3 := Lib.hid (HB.out.trans (hb3.mono HB.out.size))
          refine hK.out _ _ ((hb3.cell (World.block_lt_of_cell? _ _ b0)).trans b0) (fun hHeld => ?_)
          clear hK K
          refine norm_ (a' := ?_) ?_ ?_
          rotate_left
          · show Act.put _ (some 18) _ = _
            simp only [Act.put, List.setIfInBounds_toArray, List.set_cons_zero, List.set_cons_succ, i64_w, i32_w]
            rfl
          refine pure_ (i := 7) (N := some 19) (v := ?_) (a' := ?_) #[true, true, true, true, true, true, true, true, false, false] rfl rfl (by kernel_rfl) (fun _ _ _ h => h) (Or.inl ⟨by rfl, ?_⟩) ?_ ?_
          rotate_left
          · intro w'
            go_simp
            with_reducible rfl
          rotate_left
          · simp only [Act.put, List.setIfInBounds_toArray, List.set_cons_zero, List.set_cons_succ, i64_w, i32_w]
            rfl
          refine pure_ (i := 8) (N := some 20) (v := ?_) (a' := ?_) #[true, true, true, true, true, true, true, true, true, false] rfl rfl (by kernel_rfl) (fun _ _ _ h => h) (Or.inl ⟨by rfl, ?_⟩) ?_ ?_
          rotate_left
          · intro w'
            go_simp
            with_reducible rfl
          rotate_left
          · simp only [Act.put, List.setIfInBounds_toArray, List.set_cons_zero, List.set_cons_succ, i64_w, i32_w]
            rfl
          refine pure_ (i := 9) (N := some 21) (v := ?_) (a' := ?_) #[true, true, true, true, true, true, true, true, true, true] rfl rfl (by kernel_rfl) (fun _ _ _ h => h) (Or.inl ⟨by rfl, ?_⟩) ?_ ?_
          rotate_left
          · intro w'
            go_simp
            with_reducible rfl
          rotate_left
          · simp only [Act.put, List.setIfInBounds_toArray, List.set_cons_zero, List.set_cons_succ, i64_w, i32_w]
            rfl
          refine done_ (by kernel_rfl) ?_
          have hT7 : Hid (TWorld w.heap.size (acc ++ stepLine s) w w3) := by
            have := hT3.out
            show TWorld _ _ _ _
            rw [HL.out, List.append_nil]; exact this
          clear hT3 hA3 HB3 b0
          go_wp2
          go_roundg gk'
          case rel => exact ⟨i + 1, rfl, by omega, by omega, by omega, by rw [show (i + 1).toNat = i.toNat + 1 by omega, HACC.out]; exact hT7⟩
          case measure => omega
      · have k1 : decide (s.f0 ≥ 1) = false := decide_eq_false hk1
        have HL := Lib.hid (show stepLine s = [] by unfold stepLine; rw [if_neg (fun h => hk1 h.1)])
        refine start_ (n := 10) (S := fun w' => w'.cell? ⟨wr.heap.size, 0, none⟩ = some (.int .i64 s.f0)) (ds := []) #[false, false, false, false, false, false, false, false, false, false] (by kernel_rfl) rfl rfl (by go_simp) (fun hHeld => ?_)
        refine pure_ (i := 0) (N := some 12) (v := ?_) (a' := ?_) #[true, false, false, false, false, false, false, false, false, false] rfl rfl (by kernel_rfl) (fun _ _ _ h => h) (Or.inl ⟨by rfl, ?_⟩) ?_ ?_
        rotate_left
        · intro w'
          go_simp
          with_reducible rfl
        rotate_left
        · simp only [Act.put, List.setIfInBounds_toArray, List.set_cons_zero, List.set_cons_succ, i64_w, i32_w]
          rfl
        refine take_ (i := 1) (N := some 13) (v := ?_) (a' := ?_) #[true, true, false, false, false, false, false, false, false, false] rfl rfl (by kernel_rfl) (fun _ _ _ h => h) (Or.inl ⟨by rfl, ?_⟩) hHeld ?_ ?_
        rotate_left
        · intro w' s0
          go_simp
          with_reducible rfl
        rotate_left
        · simp only [Act.put, List.setIfInBounds_toArray, List.set_cons_zero, List.set_cons_succ, i64_w, i32_w]
          rfl
        refine pure_ (i := 2) (N := some 14) (v := ?_) (a' := ?_) #[true, true, true, false, false, false, false, false, false, false] rfl rfl (by kernel_rfl) (fun _ _ _ h => h) (Or.inl ⟨by rfl, ?_⟩) ?_ ?_
        rotate_left
        · intro w'
          go_simp
          with_reducible rfl
        rotate_left
        · simp only [Act.put, List.setIfInBounds_toArray, List.set_cons_zero, List.set_cons_succ, i64_w, i32_w]
          rfl
        refine pure_ (i := 3) (N := some 15) (v := ?_) (a' := ?_) #[true, true, true, true, false, false, false, false, false, false] rfl rfl (by kernel_rfl) (fun _ _ _ h => h) (Or.inl ⟨by rfl, ?_⟩) ?_ ?_
        rotate_left
        · intro w'
          go_simp
          with_reducible rfl
        rotate_left
        · simp only [Act.put, List.setIfInBounds_toArray, List.set_cons_zero, List.set_cons_succ, i64_w, i32_w]
          rfl
        refine pure_ (i := 4) (N := some 16) (v := undef) (a' := ?_) #[true, true, true, true, true, false, false, false, false, false] rfl rfl (by kernel_rfl) (fun _ _ _ h => h) (Or.inr ⟨by rfl, rfl⟩) ?_ ?_
        rotate_left
        · simp only [Act.put, List.setIfInBounds_toArray, List.set_cons_zero, List.set_cons_succ, i64_w, i32_w]
          rfl
        refine pure_ (i := 5) (N := some 17) (v := undef) (a' := ?_) #[true, true, true, true, true, true, false, false, false, false] rfl rfl (by kernel_rfl) (fun _ _ _ h => h) (Or.inr ⟨by rfl, rfl⟩) ?_ ?_
        rotate_left
        · simp only [Act.put, List.setIfInBounds_toArray, List.set_cons_zero, List.set_cons_succ, i64_w, i32_w]
          rfl
        refine pure_ (i := 6) (N := some 18) (v := undef) (a' := ?_) #[true, true, true, true, true, true, true, false, false, false] rfl rfl (by kernel_rfl) (fun _ _ _ h => h) (Or.inr ⟨by rfl, rfl⟩) ?_ ?_
        rotate_left
        · simp only [Act.put, List.setIfInBounds_toArray, List.set_cons_zero, List.set_cons_succ, i64_w, i32_w]
          rfl
        refine pure_ (i := 7) (N := some 19) (v := undef) (a' := ?_) #[true, true, true, true, true, true, true, true, false, false] rfl rfl (by kernel_rfl) (fun _ _ _ h => h) (Or.inr ⟨by rfl, rfl⟩) ?_ ?_
        rotate_left
        · simp only [Act.put, List.setIfInBounds_toArray, List.set_cons_zero, List.set_cons_succ, i64_w, i32_w]
          rfl
        refine pure_ (i := 8) (N := some 20) (v := undef) (a' := ?_) #[true, true, true, true, true, true, true, true, true, false] rfl rfl (by kernel_rfl) (fun _ _ _ h => h) (Or.inr ⟨by rfl, rfl⟩) ?_ ?_
        rotate_left
        · simp only [Act.put, List.setIfInBounds_toArray, List.set_cons_zero, List.set_cons_succ, i64_w, i32_w]
          rfl
        refine pure_ (i := 9) (N := some 21) (v := ?_) (a' := ?_) #[true, true, true, true, true, true, true, true, true, true] rfl rfl (by kernel_rfl) (fun _ _ _ h => h) (Or.inl ⟨by rfl, ?_⟩) ?_ ?_
        rotate_left
        · intro w'
          go_simp
          with_reducible rfl
        rotate_left
        · simp only [Act.put, List.setIfInBounds_toArray, List.set_cons_zero, List.set_cons_succ, i64_w, i32_w]
          rfl
        refine done_ (by kernel_rfl) ?_
        have hT7 : Hid (TWorld w.heap.size (acc ++ stepLine s) w W.drew) := by
          have := hT.out
          show TWorld _ _ _ _
          rw [HL.out, List.append_nil]; exact this.call ⟨rfl, rfl, rfl, Nat.le_refl _, fun _ _ => rfl⟩
        clear hT b0
        go_wp2
        go_roundg gk'
        case rel => exact ⟨i + 1, rfl, by omega, by omega, by omega, by rw [show (i + 1).toNat = i.toNat + 1 by omega, HACC.out]; exact hT7⟩
        case measure => omega
    · obtain rfl : i = l.length := by omega
      have hHW := HW.out
      rw [Int.toNat_natCast, List.take_length] at hHW
      have HT := Lib.hid hHW
      clear hHW HW
      go_wp2_with fail
      refine (Try.Builder_String_any w.heap.size w.heap.size _ _ HT.out.isB HT.out.below.size).mono ?_
      rintro e w3 ⟨rfl, hb3⟩
      have HB3 := Lib.hid (HT.out.below.trans hb3)
      clear hb3
      go_wp2
      go_ret
      exact ⟨rfl, HB3.out⟩

end Go.Proofs.Ytnpmkaklkonofaa.Txt
