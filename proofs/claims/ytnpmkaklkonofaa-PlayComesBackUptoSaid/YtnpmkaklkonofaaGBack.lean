/- Plain: what a cleaned step's line reads back as. -/
import Derived.Test.YtnpmkaklkonofaaByL
import Derived.Test.YtnpmkaklkonofaaGClean
import Derived.Test.YtnpmkaklkonofaaGText
import Derived.Test.YtnpmkaklkonofaaGDec
set_option linter.unusedVariables false
set_option linter.unusedSimpArgs false
namespace Go.Proofs.Ytnpmkaklkonofaa.Txt
open Go.RowKit Go.Proofs.YtnpmkaklkonofaaW.PrintWords Go.Proofs.YtnpmkaklkonofaaW.PrintLast Go.Proofs.Ytnpmkaklkonofaa.Hand Go.Proofs.Ytnpmkaklkonofaa.Q Go.Proofs.YtnpmkaklkonofaaW.PrintMore

theorem unDec_dec (x : Int) (h1 : -9223372036854775808 ≤ x) (h2 : x ≤ 9223372036854775807) : unDec (decB x) = (x, 0) := by
  have hl : (decB x).data.toList = decL x := rfl
  have hs : (decB x).size = (decL x).length := by show (decL x).toArray.size = _; simp
  have h3 := decL_len x h1 h2
  have h4 : 0 < (decL x).length := by
    unfold decL
    rw [List.length_append]
    have := digs_pos x.natAbs
    omega
  unfold unDec
  rw [if_neg (by omega), hl, undecV_dec x h1 h2, if_pos rfl]
theorem unesc_esc (s : ByteArray) : unesc (escB s) = (s, 0) := by
  by_cases h : s.data.toList = []
  · have e : s = ⟨#[]⟩ := by
      obtain ⟨⟨l⟩⟩ := s
      simp at h
      rw [h]
    rw [e]
    exact unesc_pct
  · have he : (escB s).data.toList = s.data.toList.flatMap escC := by unfold escB; rw [escL_flat h]
    have hn := unescS_esc s.data.toList
    have hne : escB s ≠ ⟨#[37]⟩ := by
      intro e
      rw [← he, e] at hn
      have : unescS ([37] : List UInt8) = none := unescS_short (by simp)
      rw [show (⟨#[37]⟩ : ByteArray).data.toList = [37] from rfl, this] at hn
      cases hn
    rw [← he] at hn
    rw [unesc_some hne hn]
    have : (⟨s.data.toList.toArray⟩ : ByteArray) = s := rfl
    rw [this, if_pos rfl]

/-- A word's bytes: no blank, no line's end. -/
def OkW (l : List UInt8) : Prop := l ≠ [] ∧ ∀ c ∈ l, 32 < c.toNat ∧ c.toNat < 127
theorem okW_dec (x : Int) : OkW (decL x) := by
  refine ⟨fun h => ?_, fun c hc => ?_⟩
  · have h2 := digs_pos x.natAbs
    unfold decL at h
    rw [List.append_eq_nil_iff] at h
    rw [h.2] at h2
    simp at h2
  · unfold decL at hc
    rcases List.mem_append.1 hc with h | h
    · split at h
      · simp at h; subst h; decide
      · simp at h
    · have := digs_digit _ _ h
      omega
theorem hexU_ok : ∀ n : Nat, n < 16 → 32 < (hexU n).toNat ∧ (hexU n).toNat < 127 := by
  intro n hn
  have key : ∀ m : Fin 16, 32 < (hexU m.val).toNat ∧ (hexU m.val).toNat < 127 := by decide
  exact key ⟨n, hn⟩
theorem okW_esc (l : List UInt8) : OkW (escL l) := by
  unfold escL
  split
  · exact ⟨by simp, by decide⟩
  · rename_i h
    refine ⟨fun e => ?_, fun c hc => ?_⟩
    · obtain ⟨x, r, rfl⟩ := List.exists_cons_of_ne_nil h
      rw [List.flatMap_cons, List.append_eq_nil_iff] at e
      have := e.1
      unfold escC at this
      split at this <;> simp at this
    · obtain ⟨x, _, hx⟩ := List.mem_flatMap.1 hc
      have hx2 := x.toNat_lt
      unfold escC at hx
      split at hx
      · simp at hx; subst hx; omega
      · simp at hx
        rcases hx with rfl | rfl | rfl
        · decide
        · exact hexU_ok _ (by omega)
        · exact hexU_ok _ (by omega)

theorem splitL_flat : ∀ (ws : List ByteArray) (w cur : List UInt8), (∀ c ∈ w, c ≠ 32) → (∀ y ∈ ws, ∀ c ∈ y.data.toList, c ≠ 32) →
    splitL 32 (w ++ ws.flatMap (fun y => 32 :: y.data.toList)) cur = (cur ++ w) :: ws.map (·.data.toList) := by
  intro ws
  induction ws with
  | nil =>
    intro w
    induction w with
    | nil => intro cur _ _; simp [splitL]
    | cons x w ih =>
      intro cur h h2
      have := ih (cur ++ [x]) (fun c hc => h c (List.mem_cons_of_mem _ hc)) h2
      rw [List.cons_append, splitL, if_neg (h x List.mem_cons_self), this]; simp
  | cons y ws ihw =>
    intro w
    induction w with
    | nil =>
      intro cur _ h2
      have := ihw y.data.toList [] (h2 y List.mem_cons_self) (fun z hz => h2 z (List.mem_cons_of_mem _ hz))
      rw [List.flatMap_cons, List.nil_append, List.cons_append, splitL, if_pos rfl, this]; simp
    | cons x w ih =>
      intro cur h h2
      have := ih (cur ++ [x]) (fun c hc => h c (List.mem_cons_of_mem _ hc)) h2
      rw [List.cons_append, splitL, if_neg (h x List.mem_cons_self), this]; simp
theorem unescAll_ok : ∀ (l : List (ByteArray × ByteArray)) (acc : List ByteArray), (∀ p ∈ l, unesc p.1 = (p.2, 0)) → unescAll acc (l.map (·.1)) = (acc ++ l.map (·.2), 0)
  | [], acc, _ => by simp [unescAll]
  | p :: l, acc, h => by
    have h0 := h p List.mem_cons_self
    rw [List.map_cons, unescAll, h0, if_pos rfl, unescAll_ok l _ (fun q hq => h q (List.mem_cons_of_mem _ hq))]
    simp
theorem numsAll_ok : ∀ (l : List Int) (acc : List Int), (∀ x ∈ l, -9223372036854775808 ≤ x ∧ x ≤ 9223372036854775807) → numsAll acc (l.map decB) = (acc ++ l, 0)
  | [], acc, _ => by simp [numsAll]
  | x :: l, acc, h => by
    have h0 := h x List.mem_cons_self
    rw [List.map_cons, numsAll, unDec_dec x h0.1 h0.2, if_pos rfl, numsAll_ok l _ (fun q hq => h q (List.mem_cons_of_mem _ hq))]
    simp

/-- The step's line reads back as the step. -/
def wB (s : S52) : Nat := 1 + s.f1.length + (s.f2.map fun x => x.size + 1).sum
structure Reads (s : S52) : Prop where
  out : ∃ (body : List UInt8) (ws : List ByteArray), stepLine s = body ++ [10] ∧ body.length < 150 * wB s ∧ body ≠ [] ∧ body.headD 0 ≠ 35 ∧ (∀ c ∈ body, c ≠ 10) ∧ wordsP (mkB body) = (ws, 0) ∧ stepP ws = (s, 0)

theorem flat_nums_len : ∀ (l : List Int), (∀ x ∈ l, -9223372036854775808 ≤ x ∧ x ≤ 9223372036854775807) → ((l.map decB).flatMap (fun y => 32 :: y.data.toList)).length ≤ 21 * l.length
  | [], _ => by simp
  | x :: l, h => by
    have h0 := h x List.mem_cons_self
    have h1 := decL_len x h0.1 h0.2
    have ih := flat_nums_len l (fun y hy => h y (List.mem_cons_of_mem _ hy))
    have e : (decB x).data.toList = decL x := rfl
    rw [List.map_cons, List.flatMap_cons, e, List.length_append, List.length_cons, List.length_cons]
    omega
theorem flat_texts_len : ∀ (l : List ByteArray), ((l.map escB).flatMap (fun y => 32 :: y.data.toList)).length ≤ 3 * (l.map fun x => x.size + 1).sum
  | [] => by simp
  | x :: l => by
    have h1 := escL_len x.data.toList
    have ih := flat_texts_len l
    have e : (escB x).data.toList = escL x.data.toList := rfl
    have e2 : x.data.toList.length = x.size := Array.length_toList
    rw [List.map_cons, List.flatMap_cons, e, List.length_append, List.length_cons, List.map_cons, List.sum_cons]
    omega
theorem name_len (k : Nat) (h2 : k < 35) : (shapeT.getD k ([], [])).1.length ≤ 20 := by
  have key : ∀ m : Fin 35, (shapeT.getD m.val ([], [])).1.length ≤ 20 := by decide +kernel
  exact key ⟨k, h2⟩
theorem name_ok (k : Nat) (h1 : 1 ≤ k) (h2 : k < 35) : namedL (shapeT.getD k ([], [])).1 = k ∧ (shapeT.getD k ([], [])).1 ≠ [] ∧ ∀ c ∈ (shapeT.getD k ([], [])).1, 97 ≤ c.toNat ∧ c.toNat < 127 := by
  have key : ∀ m : Fin 35, 1 ≤ m.val → namedL (shapeT.getD m.val ([], [])).1 = m.val ∧ (shapeT.getD m.val ([], [])).1 ≠ [] ∧ ∀ c ∈ (shapeT.getD m.val ([], [])).1, 97 ≤ c.toNat ∧ c.toNat < 127 := by decide +kernel
  exact key ⟨k, h2⟩ h1

theorem joinL_cons' (x : ByteArray) (r : List ByteArray) : joinL (x :: r) ⟨#[32]⟩ = x.data.toList ++ r.flatMap (fun y => 32 :: y.data.toList) := by
  unfold joinL
  rw [List.map_cons, Lib.join_cons, Lib.joinTail, List.flatMap]
  congr 2
  rw [List.map_map]
  rfl

theorem reads_of (k : Nat) (h1 : 1 ≤ k) (h2 : k < 35) (s : S52) (hk : s.f0 = k) (nums : List Int) (oo : Bool)
    (hr : ∀ x ∈ nums, -9223372036854775808 ≤ x ∧ x ≤ 9223372036854775807)
    (hn6 : nums.length ≤ 6 + s.f1.length)
    (hw : stepWords k s.f1 s.f2 (optsOf s) = mkB (shapeT.getD k ([], [])).1 :: (nums.map decB ++ s.f2.map escB))
    (hs : s = ⟨k, if oo = true then [] else nums, s.f2, optsL (if oo = true then nums else [])⟩)
    (hc : countedL (shapeT.getD k ([], [])).2 ((nums.length + s.f2.length : Nat) : Int) = true)
    (hl1 : ∀ j, j < nums.length → ¬ (letterAt (wantsOf k) j = 115 ∨ letterAt (wantsOf k) j = 83) ∧ (oo = true ↔ letterAt (wantsOf k) j = 111))
    (hl2 : ∀ j, nums.length ≤ j → j < nums.length + s.f2.length → letterAt (wantsOf k) j = 115 ∨ letterAt (wantsOf k) j = 83) : Reads s := by
  obtain ⟨n1, n2, n3⟩ := name_ok k h1 h2
  have n4 := name_len k h2
  generalize hnm : (shapeT.getD k ([], [])).1 = name at *
  have hmk : (mkB name).data.toList = name := by simp [mkB]
  have hwords : ∀ y ∈ nums.map decB ++ s.f2.map escB, OkW y.data.toList := by
    intro y hy
    rcases List.mem_append.1 hy with hy | hy
    · obtain ⟨x, _, rfl⟩ := List.mem_map.1 hy
      exact okW_dec x
    · obtain ⟨x, _, rfl⟩ := List.mem_map.1 hy
      exact okW_esc _
  have hbody := joinL_cons' (mkB name) (nums.map decB ++ s.f2.map escB)
  rw [hmk] at hbody
  have hne : name ++ (nums.map decB ++ s.f2.map escB).flatMap (fun y => 32 :: y.data.toList) ≠ [] := fun e => n2 (List.append_eq_nil_iff.1 e).1
  refine ⟨⟨_, mkB name :: (nums.map decB ++ s.f2), ?_, ?_, hne, ?_, ?_, ?_, ?_⟩⟩
  · unfold stepLine
    rw [if_pos ⟨by omega, by omega⟩, show s.f0.toNat = k by omega, hw, hbody]
  · have q1 := flat_nums_len nums hr
    have q2 := flat_texts_len s.f2
    rw [List.length_append, List.flatMap_append, List.length_append]
    unfold wB
    omega
  · obtain ⟨c, r, rfl⟩ := List.exists_cons_of_ne_nil n2
    have := n3 c List.mem_cons_self
    rw [List.cons_append, List.headD_cons]
    rintro rfl
    revert this; decide
  · intro c hc
    rcases List.mem_append.1 hc with h | h
    · have := n3 c h
      rintro rfl
      revert this; decide
    · obtain ⟨y, hy, hcy⟩ := List.mem_flatMap.1 h
      rcases List.mem_cons.1 hcy with rfl | hcy
      · decide
      · have := (hwords y hy).2 c hcy
        rintro rfl
        revert this; decide
  · unfold wordsP
    rw [show (mkB (name ++ (nums.map decB ++ s.f2.map escB).flatMap (fun y => 32 :: y.data.toList))).data.toList = name ++ (nums.map decB ++ s.f2.map escB).flatMap (fun y => 32 :: y.data.toList) by simp [mkB]]
    rw [if_neg hne, splitL_flat _ _ _ (fun c hc => by
      have := n3 c hc
      rintro rfl
      revert this; decide) (fun y hy c hc => by
      have := (hwords y hy).2 c hc
      rintro rfl
      revert this; decide)]
    have e : (([] ++ name) :: (nums.map decB ++ s.f2.map escB).map (·.data.toList)).map mkB = ((mkB name, mkB name) :: (nums.map (fun x => (decB x, decB x)) ++ s.f2.map (fun x => (escB x, x)))).map (·.1) := by
      simp only [List.map_cons, List.map_append, List.map_map, List.nil_append, Function.comp_def]
      rfl
    rw [e, unescAll_ok _ _ (fun p hp => ?_)]
    · simp [Function.comp_def]
    · rcases List.mem_cons.1 hp with rfl | hp
      · exact unesc_plain _ (by rw [hmk]; exact n2) (fun c hc => by
          rw [hmk] at hc
          have := n3 c hc
          omega)
      · rcases List.mem_append.1 hp with hp | hp
        · obtain ⟨x, _, rfl⟩ := List.mem_map.1 hp
          refine unesc_plain _ (okW_dec x).1 (fun c hc => ?_)
          have h3 := (okW_dec x).2 c hc
          refine ⟨h3.1, h3.2, ?_⟩
          have hc' : c ∈ decL x := hc
          unfold decL at hc'
          rcases List.mem_append.1 hc' with h | h
          · split at h
            · simp at h; subst h; decide
            · simp at h
          · have := digs_digit _ _ h
            omega
        · obtain ⟨x, _, rfl⟩ := List.mem_map.1 hp
          exact unesc_esc x
  · have hg : ((mkB name :: (nums.map decB ++ s.f2)).getD 0 ByteArray.empty).data.toList = name := by rw [← hmk]; rfl
    have hE : eachS (wantsOf k) 0 (nums.map decB ++ s.f2) ⟨[], [], []⟩ = (⟨if oo = true then [] else nums, s.f2, if oo = true then nums else []⟩, 0) := by
      have hn := numsAll_ok nums [] hr
      have hA := (eachS_nums (wantsOf k) oo (nums.map decB) s.f2 0 ⟨[], [], []⟩ [] (fun j _ hj => hl1 j (by simpa using hj)) (by cases oo <;> rfl)).1 (by rw [hn])
      rw [hA, hn]
      have hB := eachS_texts (wantsOf k) s.f2 (0 + (nums.map decB).length) ⟨if oo = true then [] else [] ++ nums, [], if oo = true then [] ++ nums else []⟩ (fun j h1 h2 => hl2 j (by simpa using h1) (by simpa using h2))
      rw [hB]
      simp
    unfold stepP
    rw [hg, n1, List.drop_succ_cons, List.drop_zero, hE, if_neg (by
      rintro (h | h | h)
      · cases h
      · omega
      · have e : (((mkB name :: (nums.map decB ++ s.f2)).length : Int) - 1) = ((nums.length + s.f2.length : Nat) : Int) := by simp
        rw [e, hc] at h
        cases h), if_neg (by simp)]
    rw [← hs]

theorem wants_eq {k : Nat} {p : List UInt8} (hp : (shapeT.getD k ([], [])).2 = p) : wantsOf k = if p = [111] then [111, 111, 111, 111, 111, 111] else p := by unfold wantsOf; rw [hp]
def In64 (x : Int) : Prop := -9223372036854775808 ≤ x ∧ x ≤ 9223372036854775807
theorem rd_o (k : Nat) (h1 : 1 ≤ k) (h2 : k < 35) (hp : (shapeT.getD k ([], [])).2 = [111]) (o0 o1 o2 o3 o4 o5 : Int) (hr : ∀ x ∈ [o0, o1, o2, o3, o4, o5], In64 x) : Reads ⟨k, [], [], ⟨o0, o1, o2, o3, o4, o5⟩⟩ := by
  have hw := wants_eq hp
  refine reads_of k h1 h2 _ rfl [o0, o1, o2, o3, o4, o5] true hr (by simp) ?_ (by simp [optsL]) (by rw [hp]; simp [countedL]) ?_ (fun j a b => by simp at a b; omega)
  · unfold stepWords wordsOf
    rw [hp]
    simp [wstep, optsOf, mkB]
  · intro j hj
    rw [hw]
    have : j = 0 ∨ j = 1 ∨ j = 2 ∨ j = 3 ∨ j = 4 ∨ j = 5 := by simp at hj; omega
    rcases this with rfl | rfl | rfl | rfl | rfl | rfl <;> decide
theorem rd_0 (k : Nat) (h1 : 1 ≤ k) (h2 : k < 35) (hp : (shapeT.getD k ([], [])).2 = []) : Reads ⟨k, [], [], z50⟩ := by
  have hw := wants_eq hp
  refine reads_of k h1 h2 _ rfl [] false (by simp) (by simp) ?_ (by simp [optsL]) (by rw [hp]; simp [countedL]) (fun j hj => by simp at hj) (fun j a b => by simp at b)
  unfold stepWords wordsOf
  rw [hp]
  simp [mkB]
theorem rd_S (k : Nat) (h1 : 1 ≤ k) (h2 : k < 35) (hp : (shapeT.getD k ([], [])).2 = [83]) (S : List ByteArray) : Reads ⟨k, [], S, z50⟩ := by
  have hw := wants_eq hp
  refine reads_of k h1 h2 _ rfl [] false (by simp) (by simp) ?_ (by simp [optsL]) ?_ (fun j hj => by simp at hj) (fun j a b => ?_)
  · unfold stepWords wordsOf
    rw [hp]
    simp [wstep, mkB]
  · rw [hp]; simp [countedL]
  · rw [hw]; right; simp [letterAt]
theorem rd_n (k : Nat) (h1 : 1 ≤ k) (h2 : k < 35) (hp : (shapeT.getD k ([], [])).2 = [110]) (a : Int) (hr : In64 a) : Reads ⟨k, [a], [], z50⟩ := by
  have hw := wants_eq hp
  refine reads_of k h1 h2 _ rfl [a] false (by simpa [In64] using hr) (by simp) ?_ (by simp [optsL]) (by rw [hp]; simp [countedL]) ?_ (fun j a b => by simp at a b; omega)
  · unfold stepWords wordsOf
    rw [hp]
    simp [wstep, mkB]
  · intro j hj
    rw [hw]
    obtain rfl : j = 0 := by simpa using hj
    decide
theorem rd_nn (k : Nat) (h1 : 1 ≤ k) (h2 : k < 35) (hp : (shapeT.getD k ([], [])).2 = [110, 110]) (a b : Int) (hr : In64 a) (hr2 : In64 b) : Reads ⟨k, [a, b], [], z50⟩ := by
  have hw := wants_eq hp
  refine reads_of k h1 h2 _ rfl [a, b] false (by intro x hx; simp at hx; rcases hx with rfl | rfl; exact hr; exact hr2) (by simp) ?_ (by simp [optsL]) (by rw [hp]; simp [countedL]) ?_ (fun j a b => by simp at a b; omega)
  · unfold stepWords wordsOf
    rw [hp]
    simp [wstep, mkB]
  · intro j hj
    rw [hw]
    have : j = 0 ∨ j = 1 := by simp at hj; omega
    rcases this with rfl | rfl <;> decide
theorem rd_N (k : Nat) (h1 : 1 ≤ k) (h2 : k < 35) (hp : (shapeT.getD k ([], [])).2 = [110, 110, 110, 110, 78]) (a b c d : Int) (r : List Int) (hr : ∀ x ∈ a :: b :: c :: d :: r, In64 x) : Reads ⟨k, a :: b :: c :: d :: r, [], z50⟩ := by
  have hw := wants_eq hp
  refine reads_of k h1 h2 _ rfl (a :: b :: c :: d :: r) false hr (by simp) ?_ (by simp [optsL]) ?_ ?_ (fun j a b => by simp at a b; omega)
  · unfold stepWords wordsOf
    rw [hp]
    simp [wstep, mkB]
  · rw [hp]; simp [countedL]; omega
  · intro j hj
    rw [hw]
    have : j = 0 ∨ j = 1 ∨ j = 2 ∨ j = 3 ∨ 4 ≤ j := by omega
    rcases this with rfl | rfl | rfl | rfl | h
    · decide
    · decide
    · decide
    · decide
    · have e : min j 4 = 4 := by omega
      simp [letterAt, e]
theorem rd_s (k : Nat) (h1 : 1 ≤ k) (h2 : k < 35) (hp : (shapeT.getD k ([], [])).2 = [115]) (s : ByteArray) : Reads ⟨k, [], [s], z50⟩ := by
  have hw := wants_eq hp
  refine reads_of k h1 h2 _ rfl [] false (by simp) (by simp) ?_ (by simp [optsL]) (by rw [hp]; simp [countedL]) (fun j hj => by simp at hj) (fun j a b => ?_)
  · unfold stepWords wordsOf
    rw [hp]
    simp [wstep, mkB]
  · rw [hw]
    obtain rfl : j = 0 := by simpa using b
    decide
theorem rd_ns (k : Nat) (h1 : 1 ≤ k) (h2 : k < 35) (hp : (shapeT.getD k ([], [])).2 = [110, 115]) (a : Int) (hr : In64 a) (s : ByteArray) : Reads ⟨k, [a], [s], z50⟩ := by
  have hw := wants_eq hp
  refine reads_of k h1 h2 _ rfl [a] false (by simpa [In64] using hr) (by simp) ?_ (by simp [optsL]) (by rw [hp]; simp [countedL]) ?_ (fun j a b => ?_)
  · unfold stepWords wordsOf
    rw [hp]
    simp [wstep, mkB]
  · intro j hj
    rw [hw]
    obtain rfl : j = 0 := by simpa using hj
    decide
  · rw [hw]
    obtain rfl : j = 1 := by simp at a b; omega
    decide
theorem rd_nss (k : Nat) (h1 : 1 ≤ k) (h2 : k < 35) (hp : (shapeT.getD k ([], [])).2 = [110, 115, 115]) (a : Int) (hr : In64 a) (s t : ByteArray) : Reads ⟨k, [a], [s, t], z50⟩ := by
  have hw := wants_eq hp
  refine reads_of k h1 h2 _ rfl [a] false (by simpa [In64] using hr) (by simp) ?_ (by simp [optsL]) (by rw [hp]; simp [countedL]) ?_ (fun j a b => ?_)
  · unfold stepWords wordsOf
    rw [hp]
    simp [wstep, mkB]
  · intro j hj
    rw [hw]
    obtain rfl : j = 0 := by simpa using hj
    decide
  · rw [hw]
    have : j = 1 ∨ j = 2 := by simp at a b; omega
    rcases this with rfl | rfl <;> decide

end Go.Proofs.Ytnpmkaklkonofaa.Txt


/- Plain: every cleaned step's line reads back as the step; so does a script of such steps, a line a step. -/
namespace Go.Proofs.Ytnpmkaklkonofaa.Txt
open Go.RowKit Go.Proofs.YtnpmkaklkonofaaW.PrintWords Go.Proofs.YtnpmkaklkonofaaW.PrintLast Go.Proofs.Ytnpmkaklkonofaa.Hand Go.Proofs.Ytnpmkaklkonofaa.Q Go.Proofs.YtnpmkaklkonofaaW.PrintMore

theorem sum_get1 (S : List ByteArray) : (S.getD 0 ByteArray.empty).size ≤ (S.map fun x => x.size + 1).sum := by
  cases S with
  | nil => exact Nat.zero_le _
  | cons a r => simp; omega
theorem sum_get2 (S : List ByteArray) : (S.getD 0 ByteArray.empty).size + (S.getD 1 ByteArray.empty).size ≤ (S.map fun x => x.size + 1).sum := by
  match S with
  | [] => exact Nat.zero_le _
  | [a] =>
    have : (ByteArray.empty).size = 0 := rfl
    simp [this]
  | a :: b :: r => simp; omega

theorem clean_reads (s : S52) (hN : ∀ i, In64 (s.f1.getD i 0)) (hO : ∀ x ∈ optsOf s, In64 x) : Reads (cleanP s) ∧ wB (cleanP s) ≤ wB s + 4 := by
  obtain ⟨k, N, S, ⟨o0, o1, o2, o3, o4, o5⟩⟩ := s
  change ∀ i, In64 (N.getD i 0) at hN
  change ∀ x ∈ [o0, o1, o2, o3, o4, o5], In64 x at hO
  by_cases e1 : k = 1
  · subst e1
    have e : cleanP ⟨1, N, S, ⟨o0, o1, o2, o3, o4, o5⟩⟩ = ⟨1, [], [], ⟨o0, o1, o2, o3, o4, o5⟩⟩ := by simp [cleanP, cleanAt, cleanK, fewP, someP, List.range_succ]
    rw [e]
    exact ⟨rd_o 1 (by omega) (by omega) rfl o0 o1 o2 o3 o4 o5 hO, by simp [wB] <;> omega⟩
  by_cases e12 : k = 12
  · subst e12
    have e : cleanP ⟨12, N, S, ⟨o0, o1, o2, o3, o4, o5⟩⟩ = ⟨12, [], [], ⟨o0, o1, o2, o3, o4, o5⟩⟩ := by simp [cleanP, cleanAt, cleanK, fewP, someP, List.range_succ]
    rw [e]
    exact ⟨rd_o 12 (by omega) (by omega) rfl o0 o1 o2 o3 o4 o5 hO, by simp [wB] <;> omega⟩
  by_cases e3 : k = 3
  · subst e3
    have e : cleanP ⟨3, N, S, ⟨o0, o1, o2, o3, o4, o5⟩⟩ = ⟨3, [], S, z50⟩ := by simp [cleanP, cleanAt, cleanK, fewP, someP, List.range_succ]
    rw [e]
    exact ⟨rd_S 3 (by omega) (by omega) rfl S, by simp [wB] <;> omega⟩
  by_cases e11 : k = 11
  · subst e11
    have e : cleanP ⟨11, N, S, ⟨o0, o1, o2, o3, o4, o5⟩⟩ = ⟨11, [], S, z50⟩ := by simp [cleanP, cleanAt, cleanK, fewP, someP, List.range_succ]
    rw [e]
    exact ⟨rd_S 11 (by omega) (by omega) rfl S, by simp [wB] <;> omega⟩
  by_cases e5 : k = 5
  · subst e5
    have e : cleanP ⟨5, N, S, ⟨o0, o1, o2, o3, o4, o5⟩⟩ = ⟨5, [N.getD 0 0], [], z50⟩ := by simp [cleanP, cleanAt, cleanK, fewP, someP, List.range_succ]
    rw [e]
    exact ⟨rd_n 5 (by omega) (by omega) rfl _ (hN 0), by simp [wB] <;> omega⟩
  by_cases e7 : k = 7
  · subst e7
    have e : cleanP ⟨7, N, S, ⟨o0, o1, o2, o3, o4, o5⟩⟩ = ⟨7, [N.getD 0 0], [], z50⟩ := by simp [cleanP, cleanAt, cleanK, fewP, someP, List.range_succ]
    rw [e]
    exact ⟨rd_n 7 (by omega) (by omega) rfl _ (hN 0), by simp [wB] <;> omega⟩
  by_cases e13 : k = 13
  · subst e13
    have e : cleanP ⟨13, N, S, ⟨o0, o1, o2, o3, o4, o5⟩⟩ = ⟨13, [N.getD 0 0], [], z50⟩ := by simp [cleanP, cleanAt, cleanK, fewP, someP, List.range_succ]
    rw [e]
    exact ⟨rd_n 13 (by omega) (by omega) rfl _ (hN 0), by simp [wB] <;> omega⟩
  by_cases e17 : k = 17
  · subst e17
    have e : cleanP ⟨17, N, S, ⟨o0, o1, o2, o3, o4, o5⟩⟩ = ⟨17, [N.getD 0 0], [], z50⟩ := by simp [cleanP, cleanAt, cleanK, fewP, someP, List.range_succ]
    rw [e]
    exact ⟨rd_n 17 (by omega) (by omega) rfl _ (hN 0), by simp [wB] <;> omega⟩
  by_cases e24 : k = 24
  · subst e24
    have e : cleanP ⟨24, N, S, ⟨o0, o1, o2, o3, o4, o5⟩⟩ = ⟨24, [N.getD 0 0], [], z50⟩ := by simp [cleanP, cleanAt, cleanK, fewP, someP, List.range_succ]
    rw [e]
    exact ⟨rd_n 24 (by omega) (by omega) rfl _ (hN 0), by simp [wB] <;> omega⟩
  by_cases e32 : k = 32
  · subst e32
    have e : cleanP ⟨32, N, S, ⟨o0, o1, o2, o3, o4, o5⟩⟩ = ⟨32, [N.getD 0 0], [], z50⟩ := by simp [cleanP, cleanAt, cleanK, fewP, someP, List.range_succ]
    rw [e]
    exact ⟨rd_n 32 (by omega) (by omega) rfl _ (hN 0), by simp [wB] <;> omega⟩
  by_cases e33 : k = 33
  · subst e33
    have e : cleanP ⟨33, N, S, ⟨o0, o1, o2, o3, o4, o5⟩⟩ = ⟨33, [N.getD 0 0], [], z50⟩ := by simp [cleanP, cleanAt, cleanK, fewP, someP, List.range_succ]
    rw [e]
    exact ⟨rd_n 33 (by omega) (by omega) rfl _ (hN 0), by simp [wB] <;> omega⟩
  by_cases e6 : k = 6
  · subst e6
    have e : cleanP ⟨6, N, S, ⟨o0, o1, o2, o3, o4, o5⟩⟩ = ⟨6, [N.getD 0 0, N.getD 1 0], [], z50⟩ := by simp [cleanP, cleanAt, cleanK, fewP, someP, List.range_succ]
    rw [e]
    exact ⟨rd_nn 6 (by omega) (by omega) rfl _ _ (hN 0) (hN 1), by simp [wB] <;> omega⟩
  by_cases e22 : k = 22
  · subst e22
    have e : cleanP ⟨22, N, S, ⟨o0, o1, o2, o3, o4, o5⟩⟩ = ⟨22, [N.getD 0 0, N.getD 1 0], [], z50⟩ := by simp [cleanP, cleanAt, cleanK, fewP, someP, List.range_succ]
    rw [e]
    exact ⟨rd_nn 22 (by omega) (by omega) rfl _ _ (hN 0) (hN 1), by simp [wB] <;> omega⟩
  by_cases e8 : k = 8
  · subst e8
    have e : cleanP ⟨8, N, S, ⟨o0, o1, o2, o3, o4, o5⟩⟩ = ⟨8, if N.length < 4 then fewP N 4 else N, [], z50⟩ := by simp [cleanP, cleanAt, cleanK]
    rw [e]
    by_cases h4 : N.length < 4
    · rw [if_pos h4]
      have e4 : fewP N 4 = [N.getD 0 0, N.getD 1 0, N.getD 2 0, N.getD 3 0] := by simp [fewP, List.range_succ]
      rw [e4]
      exact ⟨rd_N 8 (by omega) (by omega) rfl _ _ _ _ [] (by intro x hx; simp at hx; rcases hx with rfl | rfl | rfl | rfl; exact hN 0; exact hN 1; exact hN 2; exact hN 3), by simp [wB] <;> omega⟩
    · rw [if_neg h4]
      have hN' : ∀ x ∈ N, In64 x := fun x hx => by
        obtain ⟨i, hi, rfl⟩ := List.getElem_of_mem hx
        have := hN i
        rw [List.getD_eq_getElem?_getD, List.getElem?_eq_getElem hi] at this
        exact this
      match N, h4, hN' with
      | [], h, _ => simp at h
      | [_], h, _ => simp at h
      | [_, _], h, _ => simp at h
      | [_, _, _], h, _ => simp at h
      | a :: b :: c :: d :: r, _, hN'' => exact ⟨rd_N 8 (by omega) (by omega) rfl a b c d r hN'', by simp [wB] <;> omega⟩
  by_cases e9 : k = 9
  · subst e9
    have e : cleanP ⟨9, N, S, ⟨o0, o1, o2, o3, o4, o5⟩⟩ = ⟨9, [], [S.getD 0 ByteArray.empty], z50⟩ := by simp [cleanP, cleanAt, cleanK, fewP, someP, List.range_succ]
    rw [e]
    refine ⟨rd_s 9 (by omega) (by omega) rfl _, ?_⟩
    have := sum_get1 S
    simp [wB] at this ⊢ <;> omega
  by_cases e18 : k = 18
  · subst e18
    have e : cleanP ⟨18, N, S, ⟨o0, o1, o2, o3, o4, o5⟩⟩ = ⟨18, [], [S.getD 0 ByteArray.empty], z50⟩ := by simp [cleanP, cleanAt, cleanK, fewP, someP, List.range_succ]
    rw [e]
    refine ⟨rd_s 18 (by omega) (by omega) rfl _, ?_⟩
    have := sum_get1 S
    simp [wB] at this ⊢ <;> omega
  by_cases e23 : k = 23
  · subst e23
    have e : cleanP ⟨23, N, S, ⟨o0, o1, o2, o3, o4, o5⟩⟩ = ⟨23, [], [S.getD 0 ByteArray.empty], z50⟩ := by simp [cleanP, cleanAt, cleanK, fewP, someP, List.range_succ]
    rw [e]
    refine ⟨rd_s 23 (by omega) (by omega) rfl _, ?_⟩
    have := sum_get1 S
    simp [wB] at this ⊢ <;> omega
  by_cases e34 : k = 34
  · subst e34
    have e : cleanP ⟨34, N, S, ⟨o0, o1, o2, o3, o4, o5⟩⟩ = ⟨34, [N.getD 0 0], [S.getD 0 ByteArray.empty], z50⟩ := by simp [cleanP, cleanAt, cleanK, fewP, someP, List.range_succ]
    rw [e]
    refine ⟨rd_ns 34 (by omega) (by omega) rfl _ (hN 0) _, ?_⟩
    have := sum_get1 S
    simp [wB] at this ⊢ <;> omega
  by_cases e21 : k = 21
  · subst e21
    have e : cleanP ⟨21, N, S, ⟨o0, o1, o2, o3, o4, o5⟩⟩ = ⟨21, [N.getD 0 0], [S.getD 0 ByteArray.empty, S.getD 1 ByteArray.empty], z50⟩ := by simp [cleanP, cleanAt, cleanK, fewP, someP, List.range_succ]
    rw [e]
    refine ⟨rd_nss 21 (by omega) (by omega) rfl _ (hN 0) _ _, ?_⟩
    have := sum_get2 S
    simp [wB] at this ⊢ <;> omega
  by_cases e30 : k = 30
  · subst e30
    have e : cleanP ⟨30, N, S, ⟨o0, o1, o2, o3, o4, o5⟩⟩ = ⟨30, [N.getD 0 0], [S.getD 0 ByteArray.empty, S.getD 1 ByteArray.empty], z50⟩ := by simp [cleanP, cleanAt, cleanK, fewP, someP, List.range_succ]
    rw [e]
    refine ⟨rd_nss 30 (by omega) (by omega) rfl _ (hN 0) _ _, ?_⟩
    have := sum_get2 S
    simp [wB] at this ⊢ <;> omega
  have e4 : ∃ n : Nat, 1 ≤ n ∧ n < 35 ∧ (shapeT.getD n ([], [])).2 = [] ∧ cleanP ⟨k, N, S, ⟨o0, o1, o2, o3, o4, o5⟩⟩ = ⟨(n : Int), [], [], z50⟩ := by
    by_cases hk : k < 1 ∨ 34 < k
    · refine ⟨4, by omega, by omega, rfl, ?_⟩
      have : cleanK k = 4 := by unfold cleanK; rw [if_pos hk]
      unfold cleanP
      rw [this]
      simp [cleanAt]
    · obtain ⟨n, rfl⟩ : ∃ n : Nat, k = (n : Int) := ⟨k.toNat, by omega⟩
      refine ⟨n, by omega, by omega, ?_, ?_⟩
      · have key : ∀ m : Fin 35, m.val ≠ 0 ∧ m.val ≠ 1 ∧ m.val ≠ 12 ∧ m.val ≠ 3 ∧ m.val ≠ 11 ∧ m.val ≠ 5 ∧ m.val ≠ 7 ∧ m.val ≠ 13 ∧ m.val ≠ 17 ∧ m.val ≠ 24 ∧ m.val ≠ 32 ∧ m.val ≠ 33 ∧ m.val ≠ 6 ∧ m.val ≠ 22 ∧ m.val ≠ 8 ∧ m.val ≠ 9 ∧ m.val ≠ 18 ∧ m.val ≠ 23 ∧ m.val ≠ 34 ∧ m.val ≠ 21 ∧ m.val ≠ 30 → (shapeT.getD m.val ([], [])).2 = [] := by decide +kernel
        exact key ⟨n, by omega⟩ ⟨(show n ≠ 0 by omega), (show n ≠ 1 by omega), (show n ≠ 12 by omega), (show n ≠ 3 by omega), (show n ≠ 11 by omega), (show n ≠ 5 by omega), (show n ≠ 7 by omega), (show n ≠ 13 by omega), (show n ≠ 17 by omega), (show n ≠ 24 by omega), (show n ≠ 32 by omega), (show n ≠ 33 by omega), (show n ≠ 6 by omega), (show n ≠ 22 by omega), (show n ≠ 8 by omega), (show n ≠ 9 by omega), (show n ≠ 18 by omega), (show n ≠ 23 by omega), (show n ≠ 34 by omega), (show n ≠ 21 by omega), (show n ≠ 30 by omega)⟩
      · have : cleanK (n : Int) = n := by unfold cleanK; rw [if_neg hk]
        unfold cleanP
        rw [this]
        simp [cleanAt, e1, e12, e3, e11, e5, e7, e13, e17, e24, e32, e33, e6, e22, e8, e9, e18, e23, e34, e21, e30]
  obtain ⟨n, a1, a2, a3, a4⟩ := e4
  rw [a4]
  exact ⟨rd_0 n a1 a2 a3, by simp [wB] <;> omega⟩

theorem lineS_one : ∀ (body cur : List UInt8), (∀ c ∈ body, c ≠ 10) → lineS (body ++ [10]) cur = [cur ++ body]
  | [], cur, _ => by rw [List.nil_append, lineS_nl rfl]; simp [lineS]
  | x :: r, cur, h => by
    rw [List.cons_append, lineS_on (h x List.mem_cons_self), lineS_one r _ (fun c hc => h c (List.mem_cons_of_mem _ hc))]
    simp
theorem text_back : ∀ (l : List S52), (∀ s ∈ l, Reads s) → (∀ (i : Nat) (acc : List S52), decP ((lineS (textL l) []).map mkB) i acc = (acc ++ l, 0, 0)) ∧ cntNl (textL l) = l.length ∧ (textL l).length ≤ 150 * (l.map wB).sum
  | [], _ => ⟨fun i acc => by simp [textL, lineS, decP], by simp [textL, cntNl], by simp [textL]⟩
  | s :: l, h => by
    obtain ⟨ih1, ih2, ih3⟩ := text_back l (fun x hx => h x (List.mem_cons_of_mem _ hx))
    obtain ⟨body, ws, e1, e0, e2, e3, e4, e5, e6⟩ := (h s List.mem_cons_self).out
    have et : textL (s :: l) = (body ++ [10]) ++ textL l := by unfold textL; rw [List.flatMap_cons, e1]
    refine ⟨fun i acc => ?_, ?_, ?_⟩
    · rw [et, lineS_app, lineS_one _ _ e4, List.nil_append, List.singleton_append, List.map_cons, decP]
      have hb : (mkB body).data.toList = body := by simp [mkB]
      rw [hb, if_neg (by rintro (h | h); exact e2 h; exact e3 h), e5, if_neg (by simp)]
      simp only [e6]
      rw [if_neg (by simp), ih1]
      simp
    · rw [et]
      have hz : body.countP (· == 10) = 0 := by
        rw [List.countP_eq_zero]
        intro c hc
        simpa using e4 c hc
      unfold cntNl at ih2 ⊢
      rw [List.countP_append, List.countP_append, ih2, hz]
      simp
      omega
    · rw [et, List.length_append, List.length_append, List.length_singleton, List.map_cons, List.sum_cons]
      omega
theorem text_decode (l : List S52) (h : ∀ s ∈ l, Reads s) : decodeP ⟨(textL l).toArray⟩ = (l, 0, 0) := by
  have := (text_back l h).1 0 []
  unfold decodeP linesP
  simpa using this

theorem fewP_mem {N : List Int} {n : Nat} {x : Int} (h : x ∈ fewP N n) : ∃ i, x = N.getD i 0 := by
  obtain ⟨i, _, rfl⟩ := List.mem_map.1 h
  exact ⟨i, rfl⟩
theorem someP_mem {S : List ByteArray} {n : Nat} {x : ByteArray} (h : x ∈ someP S n) : ∃ i, x = S.getD i ByteArray.empty := by
  obtain ⟨i, _, rfl⟩ := List.mem_map.1 h
  exact ⟨i, rfl⟩
theorem self_mem {α : Type} {d : α} {N : List α} {x : α} (h : x ∈ N) : ∃ i, x = N.getD i d := by
  obtain ⟨i, hi, rfl⟩ := List.getElem_of_mem h
  exact ⟨i, by rw [List.getD_eq_getElem?_getD, List.getElem?_eq_getElem hi]; rfl⟩
theorem cleanAt_sub (k : Int) (s : S52) : (∀ x ∈ (cleanAt k s).f1, ∃ i, x = s.f1.getD i 0) ∧ (∀ x ∈ (cleanAt k s).f2, ∃ i, x = s.f2.getD i ByteArray.empty) ∧ ((cleanAt k s).f3 = s.f3 ∨ (cleanAt k s).f3 = z50) ∧
    (cleanAt k s).f1.length ≤ s.f1.length + 4 ∧ (cleanAt k s).f2.length ≤ s.f2.length + 2 := by
  unfold cleanAt
  (repeat' split) <;> refine ⟨?_, ?_, ?_, ?_, ?_⟩ <;> first
    | (intro x hx; first | exact fewP_mem hx | exact someP_mem hx | exact self_mem hx | (cases hx))
    | exact .inl rfl
    | exact .inr rfl
    | (simp [fewP_length, someP_length]; done)
    | (simp [fewP_length, someP_length]; omega)
theorem clean_ok (s : S52) (h : okStep s = true) (hb : wB s ≤ 1048576) : okStep (cleanP s) = true := by
  obtain ⟨_, _, k3, k4, k5⟩ := okStep_spec h
  obtain ⟨c1, c2, c3, c4, c5⟩ := cleanAt_sub (cleanK s.f0) s
  have hS : s.f2.length ≤ (s.f2.map fun x => x.size + 1).sum := by
    generalize s.f2 = S
    induction S with
    | nil => exact Nat.zero_le _
    | cons a r ih => simp only [List.map_cons, List.sum_cons, List.length_cons]; omega
  unfold wB at hb
  show okStep (cleanAt (cleanK s.f0) s) = true
  simp only [okStep, Bool.and_eq_true, decide_eq_true_eq, List.all_eq_true, inI64]
  refine ⟨⟨⟨⟨by omega, by omega⟩, fun x hx => ?_⟩, fun x hx => ?_⟩, fun x hx => ?_⟩
  · obtain ⟨i, rfl⟩ := c1 x hx
    exact k3 i
  · unfold optsOf at hx
    rcases c3 with c3 | c3
    · rw [c3] at hx
      exact k4 x hx
    · rw [c3] at hx
      have : x = 0 := by
        simp at hx
        rcases hx with h | h | h | h | h | h <;> exact h
      subst this
      exact ⟨by decide, by decide⟩
  · obtain ⟨i, rfl⟩ := c2 x hx
    exact k5 i
/-- The law's own list: one plain step, and the cleaned ones. -/
def cleanL (l : List S52) : List S52 := ⟨4, [], [], z50⟩ :: l.map cleanP
theorem cleanL_ok (l : List S52) (hok : ∀ s ∈ l, okStep s = true) (hb : (l.map wB).sum ≤ 1048576) :
    (∀ s ∈ cleanL l, Reads s) ∧ (∀ s ∈ cleanL l, okStep s = true) ∧ (textL (cleanL l)).length ≤ 1000000000 ∧ (cleanL l).length ≤ 1048577 := by
  have hm : ∀ (l : List S52) s, s ∈ l → wB s ≤ (l.map wB).sum := by
    intro l
    induction l with
    | nil => intro s h; cases h
    | cons a r ih =>
      intro s h
      simp only [List.map_cons, List.sum_cons]
      rcases List.mem_cons.1 h with rfl | h
      · omega
      · have := ih s h; omega
  have hR : ∀ s ∈ l, Reads (cleanP s) ∧ wB (cleanP s) ≤ wB s + 4 := fun s hs => by
    obtain ⟨_, _, k3, k4, _⟩ := okStep_spec (hok s hs)
    exact clean_reads s k3 k4
  have r4 : Reads (⟨4, [], [], z50⟩ : S52) := rd_0 4 (by omega) (by omega) rfl
  have hr : ∀ s ∈ cleanL l, Reads s := fun s hs => by
    rcases List.mem_cons.1 hs with rfl | hs
    · exact r4
    · obtain ⟨y, hy, rfl⟩ := List.mem_map.1 hs
      exact (hR y hy).1
  have hs2 : ∀ l : List S52, (∀ s ∈ l, wB (cleanP s) ≤ wB s + 4) → ((l.map cleanP).map wB).sum ≤ 5 * (l.map wB).sum ∧ l.length ≤ (l.map wB).sum := by
    intro l
    induction l with
    | nil => intro _; simp
    | cons a r ih =>
      intro h
      have h0 := h a List.mem_cons_self
      have h1 := ih (fun x hx => h x (List.mem_cons_of_mem _ hx))
      have h2 : 1 ≤ wB a := by unfold wB; omega
      simp only [List.map_cons, List.sum_cons, List.length_cons]
      omega
  obtain ⟨s1, s2⟩ := hs2 l (fun s hs => (hR s hs).2)
  refine ⟨hr, fun s hs => ?_, ?_, ?_⟩
  · rcases List.mem_cons.1 hs with rfl | hs
    · decide
    · obtain ⟨y, hy, rfl⟩ := List.mem_map.1 hs
      exact clean_ok y (hok y hy) (Nat.le_trans (hm l y hy) hb)
  · have := (text_back (cleanL l) hr).2.2
    have e : ((cleanL l).map wB).sum = 1 + ((l.map cleanP).map wB).sum := by unfold cleanL; simp [wB]
    omega
  · unfold cleanL
    rw [List.length_cons, List.length_map]
    omega
end Go.Proofs.Ytnpmkaklkonofaa.Txt


/- Plain: annalslaw30.twin: the same steps. -/
namespace Go.Proofs.Ytnpmkaklkonofaa.Txt
open Go.RowKit Go.Proofs.YtnpmkaklkonofaaW.PrintWords Go.Proofs.YtnpmkaklkonofaaW.PrintLast Go.Proofs.Ytnpmkaklkonofaa.Hand Go.Proofs.Ytnpmkaklkonofaa.Q

theorem twin_l0 (l : List S52) (hl : l.length ≤ 1048577) (hok : ∀ s ∈ l, okStep s = true) : ∀ k i, k + i = l.length → annalslaw30_twin.l0 (k + 1) l (l.take i) (i : Int) = some l
  | 0, i, h => by
    obtain rfl : i = l.length := by omega
    unfold annalslaw30_twin.l0
    rw [if_neg (by omega), List.take_length]
  | k + 1, i, h => by
    have ih := twin_l0 l hl hok k (i + 1) (by omega)
    have hmem : rd_T52 l i ∈ l := by
      unfold rd_T52
      rw [List.getD_eq_getElem?_getD, List.getElem?_eq_getElem (by omega)]
      exact List.getElem_mem _
    have hnext : l.take (i + 1) = l.take i ++ [rd_T52 l i] := by
      rw [List.take_succ_eq_append_getElem (by omega)]
      unfold rd_T52
      rw [List.getD_eq_getElem?_getD, Int.toNat_natCast, List.getElem?_eq_getElem (by omega)]; rfl
    obtain ⟨k1, k2, -, -, -⟩ := okStep_spec (hok _ hmem)
    have hw : wrap64 ((i : Int) + 1) = ((i + 1 : Nat) : Int) := by rw [show wrap64 ((i : Int) + 1) = (i : Int) + 1 from IntWalk.wrap64_in _ ⟨by omega, by omega⟩]; omega
    have hlen : (l.take i).length ≤ l.length := by rw [List.length_take]; omega
    unfold annalslaw30_twin.l0
    rw [if_pos (by omega), if_pos (by omega)]
    simp only [Option.bind_some, List.nil_append, List.length_nil, Nat.zero_add]
    rw [if_pos (by omega), if_pos (by omega), if_pos (by omega), hw]
    rw [hnext] at ih
    exact ih
theorem twin_f (l : List S52) (hl : l.length ≤ 1048577) (hok : ∀ s ∈ l, okStep s = true) : annalslaw30_twin.f (l.length + 1) l = some l := twin_l0 l hl hok l.length 0 rfl
end Go.Proofs.Ytnpmkaklkonofaa.Txt


/- The law that what is written is read back: the cleaned steps, a line a step. -/
namespace Go.Proofs.Ytnpmkaklkonofaa.Txt
open Go.RowKit Go.Proofs.YtnpmkaklkonofaaW.PrintWords Go.Proofs.YtnpmkaklkonofaaW.PrintLast Go.Proofs.Ytnpmkaklkonofaa.Hand Go.Proofs.Ytnpmkaklkonofaa.Q Go.Proofs.YtnpmkaklkonofaaW.PrintMore

theorem lit1 (w : World) : Kd.N k52 52 (w.alloc (.cells #[.int .i64 4, .slice none 0 0, .slice none 0 0, .int .i64 0, .int .i64 0, .int .i64 0, .int .i64 0, .int .i64 0, .int .i64 0] 52)) w.heap.size (fun _ => True) (.slice (some ⟨w.heap.size, 0, none⟩) 1 1) [⟨4, [], [], z50⟩] := by
  have h2 := World.ownsRow_lit (base := w.heap.size) (e := 52) (size := 9) w #[.int .i64 4, .slice none 0 0, .slice none 0 0, .int .i64 0, .int .i64 0, .int .i64 0, .int .i64 0, .int .i64 0, .int .i64 0] 1 (Nat.le_refl _) (by decide) (by decide)
  refine Kd.R_N ⟨fun _ _ => trivial, _, h2, ⟨rfl, fun j p hj => ?_⟩⟩
  obtain rfl : j = 0 := by
    have := (List.getElem?_eq_some_iff.1 hj).1
    simpa using this
  obtain rfl : (⟨4, [], [], z50⟩ : S52) = p := by simpa using hj
  exact k52_mkM _ _ _ (⟨4, [], [], z50⟩ : S52) (Kd.R_nil _ _ _ _ _) (Kd.R_nil _ _ _ _ _)

set_option maxHeartbeats 2000000 in
set_option maxRecDepth 100000 in
theorem back_calls (A : Option Addr) (c : Nat) (l : List S52) (w : World) (hr : Kd.C k52 w A l.length l) (hc : l.length ≤ c) (hok : ∀ s ∈ l, okStep s = true) (hb : (l.map wB).sum ≤ 1048576) :
    Calls Try.prog 7 #[.slice A l.length c] w fun e w' => e = .returned (.bool true) ∧ Below w.heap.size w w' := by
  have HR := Lib.hid hr
  have hlm := hr.2.1
  have hu1 := Try.underlying52
  have hu2 := Try.underlying50
  obtain ⟨hRd, hOk, hTl, hLl⟩ := cleanL_ok l hok hb
  have HRD := Lib.hid hRd
  have HOK := Lib.hid hOk
  have HTL := Lib.hid hTl
  have hll : l.length ≤ 1048576 := by unfold cleanL at hLl; rw [List.length_cons, List.length_map] at hLl; omega
  have HST := Lib.hid (lit1 w)
  have HS0 := Lib.hid (below_alloc (Below.refl w.heap.size w) (.cells #[.int .i64 4, .slice none 0 0, .slice none 0 0, .int .i64 0, .int .i64 0, .int .i64 0, .int .i64 0, .int .i64 0, .int .i64 0] 52))
  clear hr hRd hOk hTl hb hok
  go_enter Try.func7, Try.ntmps7
  go_wp2_with fail
  go_loopg [3, 4] l.length (fun gk v3 v4 wr => ∃ (i : Nat), v4 = .int .i64 i ∧ gk + i = l.length ∧ Hid (Kd.N k52 52 wr w.heap.size (fun _ => True) v3 (⟨4, [], [], z50⟩ :: (l.take i).map cleanP)) ∧ Hid (Below w.heap.size w wr))
  case atStart => exact ⟨0, rfl, by omega, HST, HS0⟩
  case round =>
    clear HST HS0
    obtain ⟨i, rfl, hgk, HN, HB⟩ := hrel
    by_cases hlt : i < l.length
    · obtain ⟨gk', rfl⟩ : ∃ m, gk = m + 1 := ⟨gk - 1, by omega⟩
      obtain ⟨ad, A1, c1, A2, c2, eA, a0, a1, a2, a3, a4, a5, a6, a7, a8, l1, g1, l2, g2⟩ := at_T52 HR.out (i : Int) (by omega) (by omega)
      subst eA
      simp only [Int.toNat_natCast] at a0 a1 a2 a3 a4 a5 a6 a7 a8
      replace a0 := (HB.out.cell (World.block_lt_of_cell? w _ a0)).trans a0
      replace a1 := (HB.out.cell (World.block_lt_of_cell? w _ a1)).trans a1
      replace a2 := (HB.out.cell (World.block_lt_of_cell? w _ a2)).trans a2
      replace a3 := (HB.out.cell (World.block_lt_of_cell? w _ a3)).trans a3
      replace a4 := (HB.out.cell (World.block_lt_of_cell? w _ a4)).trans a4
      replace a5 := (HB.out.cell (World.block_lt_of_cell? w _ a5)).trans a5
      replace a6 := (HB.out.cell (World.block_lt_of_cell? w _ a6)).trans a6
      replace a7 := (HB.out.cell (World.block_lt_of_cell? w _ a7)).trans a7
      replace a8 := (HB.out.cell (World.block_lt_of_cell? w _ a8)).trans a8
      have hx : (l.take (i + 1)).map cleanP = (l.take i).map cleanP ++ [cleanP (rd_T52 l i)] := by
        rw [List.take_succ_eq_append_getElem hlt, List.map_append]
        unfold rd_T52
        simp [hlt]
      obtain ⟨xs, hxs⟩ : ∃ xs, xs = (⟨4, [], [], z50⟩ : S52) :: (l.take i).map cleanP := ⟨_, rfl⟩
      have HX : Hid ((⟨4, [], [], z50⟩ : S52) :: (l.take (i + 1)).map cleanP = xs ++ [cleanP (rd_T52 l i)]) := by
        show _ = _
        rw [hx, hxs]; rfl
      have hxl : xs.length ≤ 1048577 := by rw [hxs, List.length_cons, List.length_map, List.length_take]; omega
      rw [← hxs] at HN
      clear hxs hx
      generalize rd_T52 l i = s at *
      obtain ⟨A3, n3, c3, e3⟩ : ∃ A n c, u3 = .slice A n c := by obtain ⟨A, c, e⟩ := Kd.N_slice HN.out; exact ⟨_, _, _, e⟩
      subst e3
      have HCL := Lib.hid (clean_calls s A1 A2 c1 c2 wr (fun k => k < w.heap.size) l1 (Kd.F_below (Kd.C_F (Kd.heap_int .i64) g1) HB.out) l2 (Kd.F_below (Kd.C_F Kd.heap_string g2) HB.out))
      clear g1 g2
      go_wp2_with fail
      refine HCL.out.mono ?_
      rintro e w1 ⟨B1, B2, d1, d2, rfl, m1, f1, m2, f2, hb1⟩
      generalize cleanP s = p at *
      have hFK : Hid (Kd.FK k52 w1 (fun k => k < w.heap.size ∨ wr.heap.size ≤ k) p [.int .i64 p.f0, .slice B1 p.f1.length d1, .slice B2 p.f2.length d2, .int .i64 p.f3.f0, .int .i64 p.f3.f1, .int .i64 p.f3.f2, .int .i64 p.f3.f3, .int .i64 p.f3.f4, .int .i64 p.f3.f5]) := fun W' hW => k52_mk W' p m1 (f1 W' hW) m2 (f2 W' hW)
      have hne : Hid (∀ k, (k < w.heap.size ∨ wr.heap.size ≤ k) → True ∧ some k ≠ (Value.slice A3 n3 c3).ownBlock) := fun k hk => ⟨trivial, fun e => by
        have q1 := Kd.N_base HN.out k e.symm
        have q2 := Kd.N_lt HN.out k e.symm
        omega⟩
      have HN1 := Lib.hid (Kd.N_below HN.out hb1)
      have HB1 := Lib.hid (HB.out.trans (hb1.mono HB.out.size))
      have hbs : w.heap.size ≤ w1.heap.size := HB1.out.size
      clear f1 f2 hb1 a0 a1 a2 a3 a4 a5 a6 a7 a8
      go_wp2_with (at_builtin; refine Kd.N_append k52 (w0 := w) w.heap.size rfl _ _ 22 52 (.agg #[(.int .i64 0), (.slice none 0 0), (.slice none 0 0), (.int .i64 0), (.int .i64 0), (.int .i64 0), (.int .i64 0), (.int .i64 0), (.int .i64 0)]) 104 rfl Try.underlying22 info52 rfl (by decide) (by omega) (.slice A3 n3 c3) xs p [.int .i64 p.f0, .slice B1 p.f1.length d1, .slice B2 p.f2.length d2, .int .i64 p.f3.f0, .int .i64 p.f3.f1, .int .i64 p.f3.f2, .int .i64 p.f3.f3, .int .i64 p.f3.f4, .int .i64 p.f3.f5] (fun _ => True) (fun k => k < w.heap.size ∨ wr.heap.size ≤ k) rfl rfl hFK.out hne.out (fun _ _ => trivial) HN1.out HB1.out HB1.out.size (by omega) ?_; intro v9 w9 ho hb hg hat; have HN9 := Lib.hid ho; have HB9 := Lib.hid hb; clear ho hb hg hat)
      go_roundg gk'
      case rel => exact ⟨i + 1, by go_num, by omega, by rw [HX.out]; exact HN9, HB9⟩
      case measure => omega
    · obtain rfl : i = l.length := by omega
      have hL : (⟨4, [], [], z50⟩ : S52) :: (l.take l.length).map cleanP = cleanL l := by rw [List.take_length]; rfl
      rw [hL] at HN
      clear hL
      generalize hcl : cleanL l = L at *
      clear hcl
      obtain ⟨A3, c3, e3, hc3, hC3⟩ := Kd.N_reads HN.out
      subst e3
      have HC3 := Lib.hid hC3
      clear hC3
      have HTW := Lib.hid (annalslaw30_twin.calls (L.length + 1) A3 c3 L L wr HC3.out hc3 (twin_f L hLl HOK.out))
      go_wp2_with fail
      refine HTW.out.mono ?_
      rintro e w1 ⟨v1, rfl, hS1, hb1⟩
      obtain ⟨A4, c4, e4, hc4, hC4⟩ := Kd.R_reads (Kd.S_R hS1)
      subst e4
      have HC4 := Lib.hid hC4
      have HC3' := Lib.hid (Kd.C_below HC3.out hb1)
      have HB1 := Lib.hid (HB.out.trans (hb1.mono HB.out.size))
      clear hS1 hC4 hb1 HC3 HTW HN
      go_wp2_with fail
      refine (text_calls A4 c4 L _ HC4.out hc4 HOK.out (by have := HTL.out; omega)).mono ?_
      rintro e w2 ⟨rfl, hb2⟩
      have HC3'' := Lib.hid (Kd.C_below HC3'.out hb2)
      have HB2 := Lib.hid (HB1.out.trans (hb2.mono HB1.out.size))
      clear hb2 HC4 HC3'
      have hTd := text_decode L HRD.out
      have hTc := (text_back L HRD.out).2.1
      have hts : (⟨(textL L).toArray⟩ : ByteArray).size = (textL L).length := by show (textL L).toArray.size = _; simp
      have htl : (⟨(textL L).toArray⟩ : ByteArray).data.toList = textL L := rfl
      have htl2 := HTL.out
      rw [← htl] at hTc htl2 hts
      generalize (⟨(textL L).toArray⟩ : ByteArray) = t at *
      have HTD := Lib.hid hTd
      have HTC := Lib.hid hTc
      have hfl : t.data.toList.length = t.size := Array.length_toList
      have hts2 : t.size ≤ 1000000000 := by omega
      clear hTd hTc htl htl2 hts
      have hcz : cntNl (t.data.toList.take 0) = 0 := rfl
      go_wp2_with fail
      go_loopg [6, 7] t.size (fun gk v6 v7 wr => ∃ i : Nat, wr = w2 ∧ v7 = .int .i64 i ∧ v6 = .int .i64 (cntNl (t.data.toList.take i)) ∧ gk + i = t.size)
      case atStart => exact ⟨0, rfl, rfl, rfl, by omega⟩
      case round =>
        obtain ⟨i, rfl, rfl, rfl, hgk⟩ := hrel
        by_cases hlt : i < t.size
        · obtain ⟨gk', rfl⟩ : ∃ m, gk = m + 1 := ⟨gk - 1, by omega⟩
          have hn := cntNl_next t.data.toList i (by omega)
          have hle := cntNl_le (t.data.toList.take i)
          have hle2 : (t.data.toList.take i).length ≤ i := by rw [List.length_take]; omega
          have hge : t.data.toList[i]'(by omega) = t[i] := rfl
          rw [hge] at hn
          by_cases h10 : t[i] = 10
          · have q5 : ((t[i].toNat : Int) == 10) = true := by rw [h10]; rfl
            rw [if_pos h10] at hn
            go_wp2_with fail
            go_roundg gk'
            case rel => exact ⟨i + 1, rfl, by go_num, by rw [hn]; go_num, by omega⟩
            case measure => omega
          · have q5 : ((t[i].toNat : Int) == 10) = false := by
              rw [beq_eq_false_iff_ne]
              exact fun e => h10 (UInt8.toNat_inj.1 (by have : (10 : UInt8).toNat = 10 := rfl; omega))
            rw [if_neg h10] at hn
            go_wp2_with fail
            go_roundg gk'
            case rel => exact ⟨i + 1, rfl, by go_num, by rw [hn]; rfl, by omega⟩
            case measure => omega
        · obtain rfl : i = t.size := by omega
          have ht : t.data.toList.take t.size = t.data.toList := by rw [← hfl, List.take_length]
          have hDC := decode_calls t hts2 wr
          rw [HTD.out] at hDC
          have HDC := Lib.hid hDC
          rw [ht, HTC.out]
          clear ht hDC hfl hcz hgk hlt
          dsimp only at HDC
          go_wp2_with fail
          refine HDC.out.mono ?_
          rintro e w3 ⟨v3, rfl, hR3, hb3⟩
          obtain ⟨A5, c5, e5, hc5, hC5⟩ := Kd.R_reads hR3
          subst e5
          have HC5 := Lib.hid hC5
          have HC3f := Lib.hid (Kd.C_below HC3''.out hb3)
          have HB3 := Lib.hid (HB2.out.trans (hb3.mono HB2.out.size))
          have hLL : ((L.length : Int) == (L.length : Int)) = true := beq_self_eq_true _
          clear hR3 hC5 hb3
          go_wp2_with fail
          refine (same_calls A5 A3 c5 c3 L _ HC5.out hc5 HC3f.out hc3).mono ?_
          rintro e w4 ⟨rfl, hb4⟩
          have HB4 := Lib.hid (HB3.out.trans (hb4.mono HB3.out.size))
          clear hb4
          go_wp2_with fail
          go_ret
          exact ⟨rfl, HB4.out⟩
end Go.Proofs.Ytnpmkaklkonofaa.Txt
