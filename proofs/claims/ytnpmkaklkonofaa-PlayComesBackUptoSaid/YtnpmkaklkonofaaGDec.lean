/- play.Decode: a script's steps; with a refusal the number of the line. -/
import Derived.Test.YtnpmkaklkonofaaPlainO
import Derived.Test.YtnpmkaklkonofaaGStep
import Derived.Test.YtnpmkaklkonofaaQx9
import Derived.Laws.StructEq
set_option linter.unusedVariables false
set_option linter.unusedSimpArgs false
namespace Go.Proofs.Ytnpmkaklkonofaa.Txt
open Go.RowKit Go.Proofs.YtnpmkaklkonofaaW.PrintWords Go.Proofs.YtnpmkaklkonofaaW.PrintLast Go.Proofs.Ytnpmkaklkonofaa.Hand Go.Proofs.Ytnpmkaklkonofaa.Q Go.Proofs.YtnpmkaklkonofaaW.PrintMore

/-- The steps of lines; i: how many lines there were ahead; acc: their steps. -/
def decP : List ByteArray → Nat → List S52 → List S52 × Int × Int
  | [], _, acc => (acc, 0, 0)
  | l :: r, i, acc => if l.data.toList = [] ∨ l.data.toList.headD 0 = 35 then decP r (i + 1) acc
    else if (wordsP l).2 ≠ 0 then ([], ((i + 1 : Nat) : Int), (wordsP l).2)
    else if (stepP (wordsP l).1).2 ≠ 0 then ([], ((i + 1 : Nat) : Int), (stepP (wordsP l).1).2)
    else decP r (i + 1) (acc ++ [(stepP (wordsP l).1).1])
def decodeP (s : ByteArray) : List S52 × Int × Int := decP (linesP s) 0 []

theorem lineS_nl {x : UInt8} (h : x = 10) (r cur : List UInt8) : lineS (x :: r) cur = cur :: lineS r [] := by rw [lineS, if_pos h]
theorem lineS_on {x : UInt8} (h : x ≠ 10) (r cur : List UInt8) : lineS (x :: r) cur = lineS r (cur ++ [x]) := by rw [lineS, if_neg h]
theorem lineS_none : ∀ l cur, (∀ x ∈ l, x ≠ 10) → cur ++ l ≠ [] → lineS l cur = [cur ++ l]
  | [], cur, _, h => by rw [lineS, if_neg (by simpa using h)]; simp
  | x :: r, cur, h, _ => by
    rw [lineS_on (h x List.mem_cons_self), lineS_none r (cur ++ [x]) (fun z hz => h z (List.mem_cons_of_mem _ hz)) (by simp)]
    simp
theorem lineS_cut : ∀ (l : List UInt8) (i : Nat) (cur : List UInt8), (∀ x ∈ l.take i, x ≠ 10) → l[i]? = some 10 → lineS l cur = (cur ++ l.take i) :: lineS (l.drop (i + 1)) []
  | [], i, _, _, h => by simp at h
  | x :: r, 0, cur, _, h => by
    rw [lineS_nl (by simpa using h)]; simp
  | x :: r, i + 1, cur, hn, h => by
    rw [lineS_on (hn x (by simp)), lineS_cut r i (cur ++ [x]) (fun y hy => hn y (by simp [hy])) (by simpa using h)]
    simp
theorem indexByte_spec (c : UInt8) : ∀ l : List UInt8, (Lib.indexByte l c < 0 ∧ ∀ x ∈ l, x ≠ c) ∨ (0 ≤ Lib.indexByte l c ∧ l[(Lib.indexByte l c).toNat]? = some c ∧ ∀ x ∈ l.take (Lib.indexByte l c).toNat, x ≠ c)
  | [] => .inl ⟨by simp [Lib.indexByte], by simp⟩
  | b :: l => by
    rw [Lib.indexByte]
    by_cases hb : b = c
    · rw [if_pos (by simpa using hb)]
      exact .inr ⟨by omega, by simpa using hb, by simp⟩
    · rw [if_neg (by simpa using hb)]
      have hge := Lib.indexByte_ge l c
      rcases indexByte_spec c l with ⟨h1, h2⟩ | ⟨h1, h2, h3⟩
      · rw [if_pos (by rw [beq_iff_eq]; omega)]
        refine .inl ⟨by omega, fun x hx => ?_⟩
        rcases List.mem_cons.1 hx with rfl | hx
        · exact hb
        · exact h2 x hx
      · rw [if_neg (by rw [beq_iff_eq]; omega)]
        have e : (Lib.indexByte l c + 1).toNat = (Lib.indexByte l c).toNat + 1 := by omega
        rw [e]
        refine .inr ⟨by omega, by simpa using h2, fun x hx => ?_⟩
        rw [List.take_succ_cons] at hx
        rcases List.mem_cons.1 hx with rfl | hx
        · exact hb
        · exact h3 x hx

/-- A text's first line and the rest. -/
theorem lines_cut (s : ByteArray) (h : s.data.toList ≠ []) : linesP s = (cutB s 10).1 :: linesP (cutB s 10).2.1 ∧ (cutB s 10).2.1.size < s.size ∧ (cutB s 10).1.size ≤ s.size := by
  have hlen : s.data.toList.length = s.size := Array.length_toList
  have hpos : 0 < s.size := by rw [← hlen]; exact List.length_pos_iff.2 h
  have hlt := indexByte_lt s.data.toList 10
  rw [hlen] at hlt
  rcases indexByte_spec 10 s.data.toList with ⟨h1, h2⟩ | ⟨h1, h2, h3⟩
  · rw [cutB_no rfl (by omega)]
    refine ⟨?_, hpos, Nat.le_refl _⟩
    unfold linesP
    rw [lineS_none _ _ h2 (by simpa using h)]
    show [mkB s.data.toList] = [s]
    rfl
  · obtain ⟨i, hi⟩ : ∃ i, (Lib.indexByte s.data.toList 10).toNat = i := ⟨_, rfl⟩
    rw [cutB_yes rfl h1, hi]
    rw [hi] at h2 h3
    have hil : i < s.size := by omega
    have e1 := extract_mk s 0 i (by omega) (by omega)
    have e2 := extract_mk s (i + 1) s.size (by omega) (Nat.le_refl _)
    rw [Nat.sub_zero, List.drop_zero] at e1
    have e3 : (s.data.toList.drop (i + 1)).take (s.size - (i + 1)) = s.data.toList.drop (i + 1) := List.take_of_length_le (by rw [List.length_drop]; omega)
    rw [e3] at e2
    refine ⟨?_, ?_, ?_⟩
    · show linesP s = s.extract 0 i :: linesP (s.extract (i + 1) s.size)
      rw [e1, e2]
      unfold linesP
      rw [lineS_cut _ i _ h3 h2]
      simp [mkB]
    · show (s.extract (i + 1) s.size).size < s.size
      rw [e2]
      show (List.toArray _).size < _
      rw [List.size_toArray, List.length_drop]; omega
    · show (s.extract 0 i).size ≤ s.size
      rw [e1]
      show (List.toArray _).size ≤ _
      rw [List.size_toArray, List.length_take]; omega

theorem escC_pos (c : UInt8) : 1 ≤ (escC c).length := by unfold escC; split <;> simp
theorem flat_ge (l : List UInt8) : l.length ≤ (l.flatMap escC).length := by
  induction l with
  | nil => simp
  | cons c l ih => have := escC_pos c; rw [List.flatMap_cons, List.length_append, List.length_cons]; omega
theorem escL_ge (l : List UInt8) : l.length ≤ (escL l).length := by
  unfold escL
  split
  · rename_i h; rw [h]; simp
  · exact flat_ge l
theorem unesc_size (w : ByteArray) : (unesc w).1.size ≤ w.size := by
  by_cases h : w = ⟨#[37]⟩
  · rw [h, unesc_pct]; exact Nat.zero_le _
  · rw [unesc_eq w h]
    unfold finR
    split
    · rename_i he
      have hl := escB_list he
      have := escL_ge (parseR w.data.toList)
      rw [← hl] at this
      have hlen : w.data.toList.length = w.size := Array.length_toList
      show (List.toArray _).size ≤ _
      rw [List.size_toArray]; omega
    · exact Nat.zero_le _
theorem unescAll_size (M : Nat) : ∀ acc l, (∀ x ∈ acc, x.size ≤ M) → (∀ p ∈ l, p.size ≤ M) → ∀ x ∈ (unescAll acc l).1, x.size ≤ M
  | acc, [], ha, _ => by simpa [unescAll] using ha
  | acc, p :: r, ha, hl => by
    unfold unescAll
    split
    · refine unescAll_size M _ r (fun x hx => ?_) (fun q hq => hl q (List.mem_cons_of_mem _ hq))
      rcases List.mem_append.1 hx with hx | hx
      · exact ha x hx
      · rw [List.mem_singleton.1 hx]
        exact Nat.le_trans (unesc_size p) (hl p List.mem_cons_self)
    · intro x hx; cases hx
theorem wordsP_ok (s : ByteArray) (h0 : (wordsP s).2 = 0) : (wordsP s).1.length ≤ s.size + 1 ∧ ∀ i, ((wordsP s).1.getD i ByteArray.empty).size ≤ s.size := by
  have hlen : s.data.toList.length = s.size := Array.length_toList
  unfold wordsP at h0 ⊢
  by_cases h : s.data.toList = []
  · rw [if_pos h]
    exact ⟨by simp, fun i => by simp⟩
  · rw [if_neg h] at h0 ⊢
    refine ⟨?_, fun i => ?_⟩
    · rw [unescAll_len _ _ h0]
      have := splitL_len 32 s.data.toList []
      simp; omega
    · have := unescAll_size s.size [] ((splitL 32 s.data.toList []).map mkB) (by simp) (fun p hp => by
        obtain ⟨l, hl, rfl⟩ := List.mem_map.1 hp
        have := splitL_size 32 s.data.toList [] l hl
        show (List.toArray _).size ≤ _
        rw [List.size_toArray]
        simp at this
        omega)
      rw [List.getD_eq_getElem?_getD]
      cases hi : (unescAll [] ((splitL 32 s.data.toList []).map mkB)).1[i]? with
      | none => exact Nat.zero_le _
      | some y => exact this y (List.mem_of_getElem? hi)
theorem info52 : (Try.prog.info? 52).map (fun i => (i.zero, i.size, i.bytes)) = some (some (.agg #[(.int .i64 0), (.slice none 0 0), (.slice none 0 0), (.int .i64 0), (.int .i64 0), (.int .i64 0), (.int .i64 0), (.int .i64 0), (.int .i64 0)]), 9, 104) := by kernel_rfl

set_option maxHeartbeats 2000000 in
set_option maxRecDepth 100000 in
theorem decode_calls (s : ByteArray) (hs : s.size ≤ 1000000000) (w : World) :
    Calls Try.prog 22 #[.string s] w fun e w' => ∃ v, e = .returned (.tuple #[v, .int .i64 (decodeP s).2.1, .int .i64 (decodeP s).2.2]) ∧ Kd.R k52 52 w' w.heap.size (fun _ => True) v (decodeP s).1 ∧ Below w.heap.size w w' := by
  have hu1 := Try.underlying52
  have hu2 := Try.underlying50
  obtain ⟨R, hR⟩ : ∃ R, decodeP s = R := ⟨_, rfl⟩
  rw [hR]
  have hst : Hid (Kd.R k52 52 w w.heap.size (fun _ => True) (.slice none 0 0) []) := Kd.R_nil _ _ _ _ _
  have hs0 : Hid (R = decP (linesP s) 0 []) := hR.symm
  clear hR
  go_enter Try.func22, Try.ntmps22
  go_wp2_with fail
  go_loopg [0, 5, 6] s.size (fun gk v0 v5 v6 wr => ∃ (sc : ByteArray) (i : Nat) (acc : List S52), v0 = .string sc ∧ v6 = .int .i64 ((i : Int) + 1) ∧ gk = sc.size ∧ i + sc.size ≤ s.size ∧ acc.length ≤ i ∧ Hid (R = decP (linesP sc) i acc) ∧ Hid (Kd.R k52 52 wr w.heap.size (fun _ => True) v5 acc) ∧ Hid (Below w.heap.size w wr))
  case atStart => exact ⟨s, 0, [], rfl, rfl, rfl, by omega, by simp, hs0, hst, Below.refl _ _⟩
  case round =>
    clear hst hs0
    obtain ⟨sc, i, acc, rfl, rfl, rfl, hi, hacc, HD, HR, HB⟩ := hrel
    by_cases hsc : sc.data.toList = []
    · have hq1 : sc.toList = [] := by rw [ByteArray.toList_eq]; exact hsc
      have hD := HD.out
      have he : linesP sc = [] := by unfold linesP; rw [hsc]; rfl
      rw [he] at hD
      have HD2 := Lib.hid hD
      clear he hD
      obtain ⟨A5, n5, c5, e5⟩ : ∃ A n c, u5 = .slice A n c := by obtain ⟨A, c, e⟩ := Kd.R_slice HR.out; exact ⟨_, _, _, e⟩
      subst e5
      go_wp2_with fail
      go_ret3
      exact ⟨_, by rw [HD2.out]; rfl, by rw [HD2.out]; exact HR.out, HB.out⟩
    · obtain ⟨hl1, hl2, hl3⟩ := lines_cut sc hsc
      have hq1 : ¬ sc.toList = [] := by rw [ByteArray.toList_eq]; exact hsc
      have hq2 : (!sc.toList.isEmpty) = true := by rw [ByteArray.toList_eq]; simpa using hsc
      rw [hl1] at HD
      have hcut := cut_calls sc 10 wr (by omega)
      obtain ⟨l, hl⟩ : ∃ l, (cutB sc 10).1 = l := ⟨_, rfl⟩
      obtain ⟨rest, hrest⟩ : ∃ rest, (cutB sc 10).2.1 = rest := ⟨_, rfl⟩
      obtain ⟨bb, hbb⟩ : ∃ bb, (cutB sc 10).2.2 = bb := ⟨_, rfl⟩
      rw [hl, hrest] at HD
      rw [hrest] at hl2
      rw [hl] at hl3
      rw [hl, hrest, hbb] at hcut
      have HCut := Lib.hid hcut
      clear hcut hl hrest hbb hl1 hsc
      have HBr : ∀ n, Below wr.heap.size wr (wr.drewN n) := fun n => pw_below_drewN (Below.refl _ _) n
      by_cases hle : l.data.toList = []
      · have hq3 : l.toList = [] := by rw [ByteArray.toList_eq]; exact hle
        have hq4 : l.toList.isEmpty = true := by rw [hq3]; rfl
        have HN : Hid (R = decP (linesP rest) (i + 1) acc) := by
          have := HD.out
          rw [decP, if_pos (.inl hle)] at this
          exact this
        clear hle HD
        go_wp2_with fail
        refine HCut.out.mono ?_
        rintro e w1 ⟨rfl, nd, rfl⟩
        have HR1 := Lib.hid (Kd.R_below HR.out (HBr nd))
        have HB1 := Lib.hid (HB.out.trans ((HBr nd).mono HB.out.size))
        go_wp2_with fail
        go_roundg rest.size
        case rel => exact ⟨rest, i + 1, acc, rfl, by go_num, rfl, by omega, by omega, HN, HR1, HB1⟩
        case measure => omega
      · have hlen : l.data.toList.length = l.size := Array.length_toList
        have hpos : 0 < l.size := by rw [← hlen]; exact List.length_pos_iff.2 hle
        have hposI : (0 : Int) < (l.size : Int) := by omega
        have hq3 : ¬ l.toList = [] := by rw [ByteArray.toList_eq]; exact hle
        have hq4 : l.toList.isEmpty = false := by rw [ByteArray.toList_eq]; simpa using hle
        have hhd : l.data.toList.headD 0 = l[0] := by rw [headD_get _ _ (by omega)]; rfl
        by_cases h35 : l[0] = 35
        · have hq5 : ((l[0].toNat : Int) == 35) = true := by rw [h35]; rfl
          have HN : Hid (R = decP (linesP rest) (i + 1) acc) := by
            have := HD.out
            rw [decP, if_pos (.inr (by rw [hhd]; exact h35))] at this
            exact this
          clear hle HD hhd h35 hlen
          go_wp2_with fail
          refine HCut.out.mono ?_
          rintro e w1 ⟨rfl, nd, rfl⟩
          have HR1 := Lib.hid (Kd.R_below HR.out (HBr nd))
          have HB1 := Lib.hid (HB.out.trans ((HBr nd).mono HB.out.size))
          go_wp2_with fail
          go_roundg rest.size
          case rel => exact ⟨rest, i + 1, acc, rfl, by go_num, rfl, by omega, by omega, HN, HR1, HB1⟩
          case measure => omega
        · have hq5 : ((l[0].toNat : Int) == 35) = false := by
            rw [beq_eq_false_iff_ne]
            exact fun e => h35 (UInt8.toNat_inj.1 (by have : (35 : UInt8).toNat = 35 := rfl; omega))
          have HW := Lib.hid (fwords_f l (by omega) (l.size + 10) (by omega))
          have hwp := wordsP_pos l hle
          have HN : Hid (R = if (wordsP l).2 ≠ 0 then ([], ((i + 1 : Nat) : Int), (wordsP l).2) else if (stepP (wordsP l).1).2 ≠ 0 then ([], ((i + 1 : Nat) : Int), (stepP (wordsP l).1).2) else decP (linesP rest) (i + 1) (acc ++ [(stepP (wordsP l).1).1])) := by
            have := HD.out
            rw [decP, if_neg (fun h => h.elim hle (fun h => h35 (by rw [← hhd]; exact h)))] at this
            exact this
          have hwl := wordsP_ok l
          clear hle HD hhd h35 hlen
          generalize hwP : wordsP l = W at *
          obtain ⟨ws, we⟩ := W
          go_wp2_with fail
          refine HCut.out.mono ?_
          rintro e w1 ⟨rfl, nd, rfl⟩
          have HR1 := Lib.hid (Kd.R_below HR.out (HBr nd))
          have HB1 := Lib.hid (HB.out.trans ((HBr nd).mono HB.out.size))
          generalize wr.drewN nd = w1 at *
          go_wp2_with fail
          refine (text_Words.calls (l.size + 10) l ws we _ HW.out).mono ?_
          rintro e w2 ⟨v10, rfl, hR2, hb2⟩
          have HR2 := Lib.hid (Kd.R_below HR1.out hb2)
          have HB2 := Lib.hid (HB1.out.trans (hb2.mono HB1.out.size))
          obtain ⟨A2, c2, e2, hc2, hC2⟩ := Kd.R_reads hR2
          subst e2
          have HC2 := Lib.hid hC2
          clear hR2 hb2 hC2
          by_cases hwe : we = 0
          · subst hwe
            have hwp2 : 0 < ws.length := hwp rfl
            obtain ⟨hw1, hw2⟩ := hwl rfl
            have hw3 : ∀ i, (ws.getD i ByteArray.empty).size ≤ 140737488351232 := fun i => by have := hw2 i; omega
            have HN2 : Hid (R = if (stepP ws).2 ≠ 0 then ([], ((i + 1 : Nat) : Int), (stepP ws).2) else decP (linesP rest) (i + 1) (acc ++ [(stepP ws).1])) := by
              have := HN.out
              rw [if_neg (fun h => h rfl)] at this
              exact this
            have HST := Lib.hid (step_calls A2 c2 ws w2 HC2.out hc2 (by have : ws.length ≤ l.size + 1 := hw1; omega) hw3)
            clear HN hwp hw1 hw2 hw3 hwl
            generalize stepP ws = P at *
            obtain ⟨⟨p0, pN, pS, ⟨q0, q1, q2, q3, q4, q5⟩⟩, pe⟩ := P
            go_wp2_with fail
            refine HST.out.mono ?_
            rintro e w3 ⟨v1, v2, rfl, hR31, hR32, hb3⟩
            have HR3 := Lib.hid (Kd.R_below HR2.out hb3)
            have HB3 := Lib.hid (HB2.out.trans (hb3.mono HB2.out.size))
            obtain ⟨Aa, na, ca, ea⟩ : ∃ A n c, v1 = .slice A n c := by obtain ⟨A, c, e⟩ := Kd.R_slice hR31; exact ⟨_, _, _, e⟩
            obtain ⟨Ab, nb, cb, eb⟩ : ∃ A n c, v2 = .slice A n c := by obtain ⟨A, c, e⟩ := Kd.R_slice hR32; exact ⟨_, _, _, e⟩
            subst ea eb
            have H31 := Lib.hid hR31
            have H32 := Lib.hid hR32
            have HSZ := Lib.hid hb3.size
            clear hR31 hR32 hb3
            by_cases hpe : pe = 0
            · have HN3 : Hid (R = decP (linesP rest) (i + 1) (acc ++ [⟨p0, pN, pS, ⟨q0, q1, q2, q3, q4, q5⟩⟩])) := by
                have := HN2.out
                rw [if_neg (fun h => h hpe)] at this
                exact this
              subst hpe
              have hal : Below w3.heap.size w3 (w3.alloc (.cells #[.int .i64 p0, .slice Aa na ca, .slice Ab nb cb, .int .i64 q0, .int .i64 q1, .int .i64 q2, .int .i64 q3, .int .i64 q4, .int .i64 q5] 52)) := below_alloc (Below.refl _ _) _
              have hb0 : w.heap.size ≤ w2.heap.size := HB2.out.size
              have hM : Hid (k52.M (w3.alloc (.cells #[.int .i64 p0, .slice Aa na ca, .slice Ab nb cb, .int .i64 q0, .int .i64 q1, .int .i64 q2, .int .i64 q3, .int .i64 q4, .int .i64 q5] 52)) w.heap.size (fun k => w2.heap.size ≤ k) (⟨p0, pN, pS, ⟨q0, q1, q2, q3, q4, q5⟩⟩ : S52) [.int .i64 p0, .slice Aa na ca, .slice Ab nb cb, .int .i64 q0, .int .i64 q1, .int .i64 q2, .int .i64 q3, .int .i64 q4, .int .i64 q5]) :=
                k52_mkM _ _ _ (⟨p0, pN, pS, ⟨q0, q1, q2, q3, q4, q5⟩⟩ : S52) (Kd.R_below (Kd.R_lower (Kd.R_mono (Kd.R_bound H31.out) (fun _ hk => hk.2.1)) hb0) hal) (Kd.R_below (Kd.R_lower (Kd.R_mono (Kd.R_bound H32.out) (fun _ hk => hk.2.1)) hb0) hal)
              have hne : Hid (∀ k, w2.heap.size ≤ k → True ∧ some k ≠ u5.ownBlock) := fun k hk => ⟨trivial, fun e => by
                obtain ⟨_, inner, hown, _⟩ := HR2.out
                have := own_lt hown k e.symm
                omega⟩
              have HR4 := Lib.hid (Kd.R_below HR3.out hal)
              have HB4 := Lib.hid (HB3.out.trans (hal.mono HB3.out.size))
              have hbs : w.heap.size ≤ w3.heap.size := HB3.out.size
              clear HN2 hal HC2 H31 H32
              go_wp2_with (at_builtin; refine Kd.R_append k52 (w0 := w) w.heap.size rfl _ _ 22 52 (.agg #[(.int .i64 0), (.slice none 0 0), (.slice none 0 0), (.int .i64 0), (.int .i64 0), (.int .i64 0), (.int .i64 0), (.int .i64 0), (.int .i64 0)]) 104 rfl Try.underlying22 info52 rfl (by decide) (by omega) u5 acc (⟨p0, pN, pS, ⟨q0, q1, q2, q3, q4, q5⟩⟩ : S52) [.int .i64 p0, .slice Aa na ca, .slice Ab nb cb, .int .i64 q0, .int .i64 q1, .int .i64 q2, .int .i64 q3, .int .i64 q4, .int .i64 q5] (fun _ => True) (fun k => w2.heap.size ≤ k) rfl (by show Value.slice (some ⟨w3.heap.size + 1, 0, none⟩) 1 1 = _; simp) hM.out hne.out (fun _ _ => trivial) HR4.out HB4.out HB4.out.size (by omega) ?_; intro v9 w9 ho hb hg hat; have HR9 := Lib.hid ho; have HB9 := Lib.hid hb; clear ho hb hg hat)
              go_roundg rest.size
              case rel => exact ⟨rest, i + 1, acc ++ [⟨p0, pN, pS, ⟨q0, q1, q2, q3, q4, q5⟩⟩], rfl, by go_num, rfl, by omega, by simp; omega, HN3, HR9, HB9⟩
              case measure => omega
            · have hq7 : (pe != 0) = true := by simpa using hpe
              have HE : Hid (R = ([], ((i + 1 : Nat) : Int), pe)) := by
                have := HN2.out
                rw [if_pos hpe] at this
                exact this
              clear hpe HN2
              go_wp2_with fail
              go_ret3
              exact ⟨_, by rw [HE.out]; rfl, by rw [HE.out]; exact Kd.R_nil _ _ _ _ _, HB3.out.alloc HB3.out.size _⟩
          · have hq6 : (we != 0) = true := by simpa using hwe
            have HE : Hid (R = ([], ((i + 1 : Nat) : Int), we)) := by
              have := HN.out
              rw [if_pos hwe] at this
              exact this
            clear hwe HN
            go_wp2_with fail
            go_ret3
            exact ⟨_, by rw [HE.out]; rfl, by rw [HE.out]; exact Kd.R_nil _ _ _ _ _, HB2.out⟩
end Go.Proofs.Ytnpmkaklkonofaa.Txt


/- annalslaw30.sameSteps: of steps that are the same it says yes. -/
namespace Go.Proofs.Ytnpmkaklkonofaa.Txt
open Go.RowKit Go.Proofs.YtnpmkaklkonofaaW.PrintWords Go.Proofs.YtnpmkaklkonofaaW.PrintLast Go.Proofs.Ytnpmkaklkonofaa.Hand Go.Proofs.Ytnpmkaklkonofaa.Q Go.Proofs.YtnpmkaklkonofaaW.PrintMore

theorem sameInts_loop (l : List Int) (hl : l.length ≤ 9223372036854775807) : ∀ (d k i : Nat), d + i = l.length → d < k → annalslaw30_sameInts.l0 k l l (i : Int) = some true := by
  intro d
  induction d with
  | zero =>
    intro k i hd hk
    obtain ⟨k, rfl⟩ : ∃ m, k = m + 1 := ⟨k - 1, by omega⟩
    rw [annalslaw30_sameInts.l0, if_neg (by omega)]
  | succ d ih =>
    intro k i hd hk
    obtain ⟨k, rfl⟩ : ∃ m, k = m + 1 := ⟨k - 1, by omega⟩
    have hw : Hid (wrap64 ((i : Int) + 1) = ((i + 1 : Nat) : Int)) := by
      show _ = _
      rw [show wrap64 ((i : Int) + 1) = (i : Int) + 1 from IntWalk.wrap64_in _ ⟨by omega, by omega⟩]; omega
    rw [annalslaw30_sameInts.l0, if_pos (by omega), if_pos (by omega), if_pos (by omega), if_pos rfl, hw.out]
    exact ih k (i + 1) (by omega) (by omega)
theorem sameInts_f (l : List Int) (hl : l.length ≤ 9223372036854775807) : annalslaw30_sameInts.f (l.length + 1) l l = some true := by
  have := sameInts_loop l hl l.length (l.length + 1) 0 (by omega) (by omega)
  unfold annalslaw30_sameInts.f
  rw [if_pos rfl]; exact this
theorem sameWords_loop (l : List ByteArray) (hl : l.length ≤ 9223372036854775807) : ∀ (d k i : Nat), d + i = l.length → d < k → annalslaw30_sameWords.l0 k l l (i : Int) = some true := by
  intro d
  induction d with
  | zero =>
    intro k i hd hk
    obtain ⟨k, rfl⟩ : ∃ m, k = m + 1 := ⟨k - 1, by omega⟩
    rw [annalslaw30_sameWords.l0, if_neg (by omega)]
  | succ d ih =>
    intro k i hd hk
    obtain ⟨k, rfl⟩ : ∃ m, k = m + 1 := ⟨k - 1, by omega⟩
    have hw : Hid (wrap64 ((i : Int) + 1) = ((i + 1 : Nat) : Int)) := by
      show _ = _
      rw [show wrap64 ((i : Int) + 1) = (i : Int) + 1 from IntWalk.wrap64_in _ ⟨by omega, by omega⟩]; omega
    rw [annalslaw30_sameWords.l0, if_pos (by omega), if_pos (by omega), if_pos (by omega), if_pos rfl, hw.out]
    exact ih k (i + 1) (by omega) (by omega)
theorem sameWords_f (l : List ByteArray) (hl : l.length ≤ 9223372036854775807) : annalslaw30_sameWords.f (l.length + 1) l l = some true := by
  have := sameWords_loop l hl l.length (l.length + 1) 0 (by omega) (by omega)
  unfold annalslaw30_sameWords.f
  rw [if_pos rfl]; exact this

theorem neq_opts (o0 o1 o2 o3 o4 o5 : Int) (W : World) : (binOp .neq 50 (.agg #[.int .i64 o0, .int .i64 o1, .int .i64 o2, .int .i64 o3, .int .i64 o4, .int .i64 o5]) (.agg #[.int .i64 o0, .int .i64 o1, .int .i64 o2, .int .i64 o3, .int .i64 o4, .int .i64 o5])).run Try.prog W = .ok (.bool false) W := by
  have h : ∀ d : Nat, (Op.equalIn (d + 2) 50 (.agg #[.int .i64 o0, .int .i64 o1, .int .i64 o2, .int .i64 o3, .int .i64 o4, .int .i64 o5]) (.agg #[.int .i64 o0, .int .i64 o1, .int .i64 o2, .int .i64 o3, .int .i64 o4, .int .i64 o5])).run Try.prog W = .ok true W := by
    intro d
    refine eqA_of (d := d + 1) Try.underlying50 (by kernel_rfl) ?_
    have e : ∀ x : Int, (Op.equalIn (d + 1) 3 (.int .i64 x) (.int .i64 x)).run Try.prog W = .ok true W := fun x => by
      rw [run_equalIn_int W d 3 .i64 .i64 x x Try.underlying3]; simp
    refine eqf_cons (r := true) (s := true) (a := .int .i64 o0) (b := .int .i64 o0) rfl (by kernel_rfl) (by kernel_rfl) (e _) ?_
    refine eqf_cons (r := true) (s := true) (a := .int .i64 o1) (b := .int .i64 o1) rfl (by kernel_rfl) (by kernel_rfl) (e _) ?_
    refine eqf_cons (r := true) (s := true) (a := .int .i64 o2) (b := .int .i64 o2) rfl (by kernel_rfl) (by kernel_rfl) (e _) ?_
    refine eqf_cons (r := true) (s := true) (a := .int .i64 o3) (b := .int .i64 o3) rfl (by kernel_rfl) (by kernel_rfl) (e _) ?_
    refine eqf_cons (r := true) (s := true) (a := .int .i64 o4) (b := .int .i64 o4) rfl (by kernel_rfl) (by kernel_rfl) (e _) ?_
    exact eqf_last (a := .int .i64 o5) (b := .int .i64 o5) rfl (by kernel_rfl) (by kernel_rfl) (e _)
  simp only [binOp]
  simp [Op.equal, Op.maxDepth, h 9998]

set_option maxHeartbeats 2000000 in
set_option maxRecDepth 100000 in
theorem same_calls (A B : Option Addr) (cA cB : Nat) (l : List S52) (w : World) (hA : Kd.C k52 w A l.length l) (hcA : l.length ≤ cA) (hB : Kd.C k52 w B l.length l) (hcB : l.length ≤ cB) :
    Calls Try.prog 24 #[.slice A l.length cA, .slice B l.length cB] w fun e w' => e = .returned (.bool true) ∧ Below w.heap.size w w' := by
  have HA := Lib.hid hA
  have HB := Lib.hid hB
  have hl := hA.2.1
  clear hA hB
  have hu1 := Try.underlying52
  have hu2 := Try.underlying50
  go_enter Try.func24, Try.ntmps24
  go_wp2_with fail
  go_loopg [5] l.length (fun gk v5 wr => ∃ i : Nat, v5 = .int .i64 i ∧ gk + i = l.length ∧ Hid (Below w.heap.size w wr))
  case atStart => exact ⟨0, rfl, rfl, Below.refl _ _⟩
  case round =>
    obtain ⟨i, rfl, hgk, HW⟩ := hrel
    by_cases hlt : i < l.length
    · obtain ⟨gk', rfl⟩ : ∃ m, gk = m + 1 := ⟨gk - 1, by omega⟩
      obtain ⟨adA, A1, c1, A2, c2, eA, a0, a1, a2, a3, a4, a5, a6, a7, a8, l1, g1, l2, g2⟩ := at_T52 (Kd.C_below HA.out HW.out) (i : Int) (by omega) (by omega)
      obtain ⟨adB, B1, d1, B2, d2, eB, b0, b1, b2, b3, b4, b5, b6, b7, b8, m1, j1, m2, j2⟩ := at_T52 (Kd.C_below HB.out HW.out) (i : Int) (by omega) (by omega)
      subst eA eB
      simp only [Int.toNat_natCast] at a0 a1 a2 a3 a4 a5 a6 a7 a8 b0 b1 b2 b3 b4 b5 b6 b7 b8
      generalize rd_T52 l i = s at *
      obtain ⟨s0, sN, sS, ⟨o0, o1, o2, o3, o4, o5⟩⟩ := s
      have G1 := Lib.hid g1
      have G2 := Lib.hid g2
      have J1 := Lib.hid j1
      have J2 := Lib.hid j2
      have hS1 := sameInts_f sN g1.2.1
      have hS2 := sameWords_f sS g2.2.1
      have HS1 := Lib.hid hS1
      have HS2 := Lib.hid hS2
      have hne := neq_opts o0 o1 o2 o3 o4 o5
      have hk : (s0 != s0) = false := by simp
      clear g1 g2 j1 j2 hS1 hS2
      go_wp2_with fail
      go_quiet ((first | (go_at_call 48; exact Calls.quiet_of ((annalslaw30_sameInts.calls (sN.length + 1) A1 c1 sN B1 d1 sN true _ (Kd.C_below G1.out (pw_below_drewN (Below.refl _ _) _)) l1 (Kd.C_below J1.out (pw_below_drewN (Below.refl _ _) _)) m1 HS1.out).mono fun e w' h => ⟨h.1, h.2.out⟩)) | (go_at_call 49; exact Calls.quiet_of ((annalslaw30_sameWords.calls (sS.length + 1) A2 c2 sS B2 d2 sS true _ (Kd.C_below G2.out (pw_below_drewN (Below.refl _ _) _)) l2 (Kd.C_below J2.out (pw_below_drewN (Below.refl _ _) _)) m2 HS2.out).mono fun e w' h => ⟨h.1, h.2.out⟩))))
      have HW1 := Lib.hid (HW.out.trans ((pw_below_drewN (Below.refl wr.heap.size wr) nq).mono HW.out.size))
      clear a0 a1 a2 a3 a4 a5 a6 a7 a8 b0 b1 b2 b3 b4 b5 b6 b7 b8
      go_wp2_with fail
      go_roundg gk'
      case rel => exact ⟨i + 1, by go_num, by omega, HW1⟩
      case measure => omega
    · obtain rfl : i = l.length := by omega
      go_wp2_with fail
      go_ret
      exact ⟨rfl, HW.out⟩
end Go.Proofs.Ytnpmkaklkonofaa.Txt
