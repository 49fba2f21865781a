/- Plain: two scripts one behind the other. -/
import Derived.Test.YtnpmkaklkonofaaGDec
set_option linter.unusedVariables false
set_option linter.unusedSimpArgs false
namespace Go.Proofs.Ytnpmkaklkonofaa.Txt
open Go.RowKit Go.Proofs.YtnpmkaklkonofaaW.PrintWords Go.Proofs.YtnpmkaklkonofaaW.PrintLast Go.Proofs.Ytnpmkaklkonofaa.Hand Go.Proofs.Ytnpmkaklkonofaa.Q

theorem lineS_app : ∀ (l m cur : List UInt8), lineS ((l ++ [10]) ++ m) cur = lineS (l ++ [10]) cur ++ lineS m []
  | [], m, cur => by
    show lineS (10 :: m) cur = lineS [10] cur ++ lineS m []
    rw [lineS_nl rfl, lineS_nl rfl]
    simp [lineS]
  | x :: l, m, cur => by
    show lineS (x :: ((l ++ [10]) ++ m)) cur = lineS (x :: (l ++ [10])) cur ++ lineS m []
    by_cases hx : x = 10
    · rw [lineS_nl hx, lineS_nl hx, lineS_app l m []]; rfl
    · rw [lineS_on hx, lineS_on hx, lineS_app l m (cur ++ [x])]
/-- How many lines end there. -/
def cntNl (l : List UInt8) : Nat := l.countP (· == 10)
theorem lineS_cnt : ∀ (l cur : List UInt8), (lineS (l ++ [10]) cur).length = cntNl (l ++ [10])
  | [], cur => by
    show (lineS [10] cur).length = _
    rw [lineS_nl rfl]; simp [lineS, cntNl]
  | x :: l, cur => by
    show (lineS (x :: (l ++ [10])) cur).length = cntNl (x :: (l ++ [10]))
    by_cases hx : x = 10
    · rw [lineS_nl hx, List.length_cons, lineS_cnt l []]; simp [cntNl, hx]
    · rw [lineS_on hx, lineS_cnt l (cur ++ [x])]; simp [cntNl, hx]

theorem cntNl_next (l : List UInt8) (i : Nat) (hi : i < l.length) : cntNl (l.take (i + 1)) = cntNl (l.take i) + if l[i] = 10 then 1 else 0 := by
  unfold cntNl
  rw [List.take_succ_eq_append_getElem hi, List.countP_append]
  by_cases h : l[i] = 10
  · simp [h]
  · simp [h]
theorem cntNl_le (l : List UInt8) : cntNl l ≤ l.length := List.countP_le_length
theorem decP_off : ∀ (ls : List ByteArray) (i : Nat) (acc : List S52),
    ((decP ls 0 []).2.2 = 0 → decP ls i acc = (acc ++ (decP ls 0 []).1, 0, 0)) ∧ ((decP ls 0 []).2.2 ≠ 0 → decP ls i acc = ([], (i : Int) + (decP ls 0 []).2.1, (decP ls 0 []).2.2)) := by
  intro ls
  induction ls with
  | nil => intro i acc; exact ⟨fun _ => by simp [decP], fun h => absurd rfl h⟩
  | cons l r ih =>
    intro i acc
    rw [decP, decP]
    by_cases h1 : l.data.toList = [] ∨ l.data.toList.headD 0 = 35
    · rw [if_pos h1, if_pos h1]
      have a := ih (i + 1) acc
      have b := ih (0 + 1) []
      by_cases h0 : (decP r 0 []).2.2 = 0
      · rw [a.1 h0, b.1 h0]; simp
      · rw [a.2 h0, b.2 h0]
        refine ⟨fun h => absurd h h0, fun _ => ?_⟩
        simp; omega
    · rw [if_neg h1, if_neg h1]
      by_cases h2 : (wordsP l).2 ≠ 0
      · rw [if_pos h2, if_pos h2]
        exact ⟨fun h => absurd h h2, fun _ => by simp⟩
      · rw [if_neg h2, if_neg h2]
        by_cases h3 : (stepP (wordsP l).1).2 ≠ 0
        · rw [if_pos h3, if_pos h3]
          exact ⟨fun h => absurd h h3, fun _ => by simp⟩
        · rw [if_neg h3, if_neg h3]
          have a := ih (i + 1) (acc ++ [(stepP (wordsP l).1).1])
          have b := ih (0 + 1) ([] ++ [(stepP (wordsP l).1).1])
          by_cases h0 : (decP r 0 []).2.2 = 0
          · rw [a.1 h0, b.1 h0]; simp
          · rw [a.2 h0, b.2 h0]
            refine ⟨fun h => absurd h h0, fun _ => ?_⟩
            simp; omega
theorem decP_app : ∀ (ls ms : List ByteArray) (i : Nat) (acc : List S52),
    ((decP ls i acc).2.2 ≠ 0 → decP (ls ++ ms) i acc = decP ls i acc) ∧ ((decP ls i acc).2.2 = 0 → decP (ls ++ ms) i acc = decP ms (i + ls.length) (decP ls i acc).1) := by
  intro ls ms
  induction ls with
  | nil => intro i acc; exact ⟨fun h => absurd rfl h, fun _ => by simp [decP]⟩
  | cons l r ih =>
    intro i acc
    rw [List.cons_append, decP, decP, List.length_cons]
    by_cases h1 : l.data.toList = [] ∨ l.data.toList.headD 0 = 35
    · rw [if_pos h1, if_pos h1]
      have := ih (i + 1) acc
      rw [show i + 1 + r.length = i + (r.length + 1) by omega] at this
      exact this
    · rw [if_neg h1, if_neg h1]
      by_cases h2 : (wordsP l).2 ≠ 0
      · rw [if_pos h2, if_pos h2]
        exact ⟨fun _ => rfl, fun h => absurd h h2⟩
      · rw [if_neg h2, if_neg h2]
        by_cases h3 : (stepP (wordsP l).1).2 ≠ 0
        · rw [if_pos h3, if_pos h3]
          exact ⟨fun _ => rfl, fun h => absurd h h3⟩
        · rw [if_neg h3, if_neg h3]
          have := ih (i + 1) (acc ++ [(stepP (wordsP l).1).1])
          rw [show i + 1 + r.length = i + (r.length + 1) by omega] at this
          exact this

/-- A script whose last line ends, and another one behind it. -/
theorem decode_app (a b : ByteArray) (l : List UInt8) (ha : a.data.toList = l ++ [10]) :
    ((decodeP a).2.2 ≠ 0 → decodeP (a ++ b) = ([], (decodeP a).2.1, (decodeP a).2.2)) ∧
    ((decodeP a).2.2 = 0 → (decodeP b).2.2 ≠ 0 → decodeP (a ++ b) = ([], (cntNl a.data.toList : Int) + (decodeP b).2.1, (decodeP b).2.2)) ∧
    ((decodeP a).2.2 = 0 → (decodeP b).2.2 = 0 → decodeP (a ++ b) = ((decodeP a).1 ++ (decodeP b).1, 0, 0)) := by
  have hl : linesP (a ++ b) = linesP a ++ linesP b := by
    unfold linesP
    have e : (a ++ b).data.toList = (l ++ [10]) ++ b.data.toList := by rw [← ha]; simp
    rw [e, lineS_app, List.map_append, ha]
  have hc : (linesP a).length = cntNl a.data.toList := by
    unfold linesP
    rw [List.length_map, ha, lineS_cnt]
  have e0 : decodeP (a ++ b) = decP (linesP a ++ linesP b) 0 [] := by unfold decodeP; rw [hl]
  have happ := decP_app (linesP a) (linesP b) 0 []
  have hoffA := decP_off (linesP a) 0 []
  rw [e0]
  refine ⟨fun h => ?_, fun h h2 => ?_, fun h h2 => ?_⟩
  · rw [happ.1 h, hoffA.2 h]
    unfold decodeP
    simp
  · rw [happ.2 h, (decP_off (linesP b) (0 + (linesP a).length) _).2 h2, Nat.zero_add, hc]; rfl
  · rw [happ.2 h, (decP_off (linesP b) (0 + (linesP a).length) _).1 h2]; rfl
theorem decP_range : ∀ (ls : List ByteArray) (i : Nat) (acc : List S52), 0 ≤ (decP ls i acc).2.1 ∧ (decP ls i acc).2.1 ≤ ((i + ls.length : Nat) : Int) := by
  intro ls
  induction ls with
  | nil => intro i acc; rw [decP]; simp
  | cons l r ih =>
    intro i acc
    rw [decP, List.length_cons]
    have hi : ((i + (r.length + 1) : Nat) : Int) = ((i + 1 + r.length : Nat) : Int) := by omega
    rw [hi]
    split
    · exact ih (i + 1) acc
    · split
      · simp; omega
      · split
        · simp; omega
        · exact ih _ _
theorem decode_range (a : ByteArray) : 0 ≤ (decodeP a).2.1 ∧ (decodeP a).2.1 ≤ (a.size : Int) + 1 := by
  have h := decP_range (linesP a) 0 []
  have h2 : (linesP a).length ≤ a.size + 1 := by
    unfold linesP
    rw [List.length_map]
    have := lineS_len a.data.toList []
    rw [Array.length_toList] at this
    exact this
  unfold decodeP
  exact ⟨h.1, by omega⟩
theorem decode_err (a : ByteArray) (h : (decodeP a).2.2 ≠ 0) : (decodeP a).1 = [] := by
  have := (decP_off (linesP a) 0 []).2 h
  unfold decodeP
  rw [this]
theorem decode_ok (a : ByteArray) (h : (decodeP a).2.2 = 0) : (decodeP a).2.1 = 0 := by
  have := (decP_off (linesP a) 0 []).1 h
  unfold decodeP
  rw [this]

/-- The first word of the law. -/
theorem unDec_7 : unDec ⟨#[55]⟩ = (7, 0) := by
  have h : decB 7 = ⟨#[55]⟩ := by
    unfold decB decL
    rw [show (7 : Int).natAbs = 7 from rfl, digs_lt (by omega)]; rfl
  rw [unDec_eq _ (by decide)]
  have e : rundV (⟨#[55]⟩ : ByteArray).data.toList = 7 := by
    have e1 : rundStep 0 55 = -7 := by
      unfold rundStep
      rw [if_pos (by decide), show ((55 : UInt8).toNat : Int) = 55 from rfl]
      unfold wrap64; omega
    show (if ([55] : List UInt8).headD 0 = 45 then rundStep 0 55 else wrap64 (-(rundStep 0 55))) = 7
    rw [if_neg (by decide), e1, wrap64_of (by omega) (by omega)]; rfl
  rw [e, if_pos h]
theorem unesc_plain (w : ByteArray) (hne : w.data.toList ≠ []) (h : ∀ c ∈ w.data.toList, 32 < c.toNat ∧ c.toNat < 127 ∧ c.toNat ≠ 37) : unesc w = (w, 0) := by
  have hesc : ∀ l : List UInt8, (∀ c ∈ l, 32 < c.toNat ∧ c.toNat < 127 ∧ c.toNat ≠ 37) → l.flatMap escC = l := by
    intro l
    induction l with
    | nil => intro _; rfl
    | cons c l ih =>
      intro hl
      rw [List.flatMap_cons, ih (fun x hx => hl x (List.mem_cons_of_mem _ hx))]
      unfold escC
      rw [if_pos (hl c List.mem_cons_self)]; rfl
  have he : escB w = w := by
    unfold escB escL
    rw [if_neg hne, hesc _ h]
  have hpc : w ≠ ⟨#[37]⟩ := fun e => by
    have := h 37 (by rw [e]; simp)
    exact this.2.2 rfl
  have hs := unescS_esc w.data.toList
  rw [hesc _ h] at hs
  rw [unesc_some hpc hs]
  have : (⟨w.data.toList.toArray⟩ : ByteArray) = w := rfl
  rw [this, if_pos he]
theorem root7 : decodeP ⟨#[114, 111, 111, 116, 32, 55, 10]⟩ = ([⟨7, [7], [], z50⟩], 0, 0) := by
  have hl : linesP ⟨#[114, 111, 111, 116, 32, 55, 10]⟩ = [⟨#[114, 111, 111, 116, 32, 55]⟩] := by
    unfold linesP
    have : lineS (⟨#[114, 111, 111, 116, 32, 55, 10]⟩ : ByteArray).data.toList [] = [[114, 111, 111, 116, 32, 55]] := by decide
    rw [this]; rfl
  have u1 : unesc (mkB [114, 111, 111, 116]) = (mkB [114, 111, 111, 116], 0) := unesc_plain _ (by decide) (by decide)
  have u2 : unesc (mkB [55]) = (mkB [55], 0) := unesc_plain _ (by decide) (by decide)
  have hw : wordsP ⟨#[114, 111, 111, 116, 32, 55]⟩ = ([mkB [114, 111, 111, 116], mkB [55]], 0) := by
    unfold wordsP
    have : splitL 32 (⟨#[114, 111, 111, 116, 32, 55]⟩ : ByteArray).data.toList [] = [[114, 111, 111, 116], [55]] := by decide
    rw [this, if_neg (by decide)]
    simp [unescAll, u1, u2]
  have hd : unDec (mkB [55]) = (7, 0) := unDec_7
  have hk : namedL [114, 111, 111, 116] = 7 := by decide
  have hs : stepP [mkB [114, 111, 111, 116], mkB [55]] = (⟨7, [7], [], z50⟩, 0) := by
    have hk' : namedL ([mkB [114, 111, 111, 116], mkB [55]].getD 0 ByteArray.empty).data.toList = 7 := hk
    have hE : eachS (wantsOf 7) 0 ([mkB [114, 111, 111, 116], mkB [55]].drop 1) ⟨[], [], []⟩ = (⟨[7], [], []⟩, 0) := by
      have hle : letterAt (wantsOf 7) 0 = 110 := by decide
      have ht : takeS 110 (mkB [55]) ⟨[], [], []⟩ = (⟨[7], [], []⟩, 0) := by
        unfold takeS
        rw [if_neg (by decide), if_neg (by decide), hd]; rfl
      show eachS (wantsOf 7) 0 [mkB [55]] ⟨[], [], []⟩ = _
      rw [eachS, hle, ht]
      simp [eachS]
    unfold stepP
    rw [hk', if_neg (by
      rintro (h | h | h)
      · cases h
      · cases h
      · revert h; decide), hE]
    simp [optsL]
  unfold decodeP
  rw [hl, decP, if_neg (by decide), hw, if_neg (by decide)]
  simp only [hs]
  simp [decP]

end Go.Proofs.Ytnpmkaklkonofaa.Txt
