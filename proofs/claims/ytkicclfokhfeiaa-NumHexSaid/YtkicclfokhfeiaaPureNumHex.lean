/- Proves that digits that are read are written as they were, and are just those of 16: for every text, no condition but the row's own bound. -/
import Derived.Test.YtkicclfokhfeiaaEvalHexNumHex
namespace Go.Proofs.Ytkicclfokhfeiaa.Pure
open Go.RowKit Go.Proofs.Ytkicclfokhfeiaa.PNumHex Go.Proofs.YtkicclfokhfeiaaW.PrintWords Go.Proofs.YtkicclfokhfeiaaW.PrintLast

theorem hex_dg_none (c : Int) : ev_dg c = none ↔ ¬ ((48 ≤ c ∧ c ≤ 57) ∨ (97 ≤ c ∧ c ≤ 102)) := by
  unfold ev_dg
  split
  · rename_i h; simp [h]
  · rename_i h
    split
    · rename_i h2; simp [h2]
    · rename_i h2; simp only [true_iff]; omega

/-- Digits that could not be read: one of them is none of 16. -/
theorem hex_bad (l : List Int) (hl : l.length % 2 = 0) (h : ev_un l = none) : ∃ c ∈ l, ev_dg c = none := by
  induction l using ev_un.induct with
  | case1 c d s a b r e3 e2 e1 ih => simp [ev_un, e1, e2, e3] at h
  | case2 c d s hno ih =>
    cases e1 : ev_dg c with
    | none => exact ⟨c, by simp, e1⟩
    | some a => cases e2 : ev_dg d with
      | none => exact ⟨d, by simp, e2⟩
      | some b => cases e3 : ev_un s with
        | none =>
          obtain ⟨x, hx, e⟩ := ih (by simp at hl; omega) e3
          exact ⟨x, by simp [hx], e⟩
        | some r =>
          first
            | exact (hno _ _ _ e1 e2 e3).elim
            | exact (hno _ _ _ e3 e2 e1).elim
  | case3 s hno =>
    have : s = [] := by
      match s, hno with
      | [], _ => rfl
      | [c], _ => simp at hl
      | c :: d :: l, hno => exact absurd rfl (hno c d l)
    subst this
    simp [ev_un] at h

theorem hex_loop (s : ByteArray) (hs : s.size ≤ 140737488351232) (d : Nat) : ∀ (k i : Nat) (o : Bool), i + d = s.size → 20 ≤ k → (o = true ∨ ∃ j, i ≤ j ∧ j < s.size ∧ ev_dg (bt s (j : Int)) = none) →
    fairleadlaw01_NumHex.l0 (k + d + 1) s [] o (i : Int) = some true := by
  induction d with
  | zero =>
    intro k i o hi hk ho
    have : o = true := by
      rcases ho with h | ⟨j, h1, h2, _⟩
      · exact h
      · omega
    subst this
    simp only [fairleadlaw01_NumHex.l0]
    rw [if_neg (by omega)]
    simp only [if_true]
    rw [if_pos (by simp), ev_heads _ (by omega)]
    rfl
  | succ d ih =>
    intro k i o hi hk ho
    have w : wrap64 ((i : Int) + 1) = ((i + 1 : Nat) : Int) := by unfold wrap64; omega
    have ihk := ih k (i + 1)
    rw [show k + (d + 1) + 1 = (k + d + 1) + 1 from by omega]
    generalize k + d + 1 = K at ihk ⊢
    simp only [fairleadlaw01_NumHex.l0]
    rw [if_pos (Int.ofNat_lt.2 (by omega)), w]
    cases o with
    | true =>
      rw [if_pos rfl]
      exact ihk true (by omega) hk (.inl rfl)
    | false =>
      have ho' : ∃ j, i ≤ j ∧ j < s.size ∧ ev_dg (bt s (j : Int)) = none := ho.resolve_left (by decide)
      have next : ev_dg (bt s (i : Int)) ≠ none → ∃ j, i + 1 ≤ j ∧ j < s.size ∧ ev_dg (bt s (j : Int)) = none := by
        intro hne
        obtain ⟨j, h1, h2, h3⟩ := ho'
        refine ⟨j, ?_, h2, h3⟩
        rcases Nat.lt_or_ge i j with h | h
        · exact h
        · exact absurd (by rw [show i = j from by omega]; exact h3) hne
      have hdn := hex_dg_none (bt s (i : Int))
      rw [if_neg (by decide), if_pos (Int.natCast_nonneg _)]
      by_cases h1 : bt s (i : Int) ≥ 48
      · rw [if_pos h1]
        by_cases h2 : bt s (i : Int) ≤ 57
        · rw [if_pos h2]
          exact ihk false (by omega) hk (.inr (next (by rw [Ne, hdn]; omega)))
        · rw [if_neg h2]
          by_cases h3 : bt s (i : Int) ≥ 97
          · rw [if_pos h3]
            by_cases h4 : bt s (i : Int) ≤ 102
            · rw [decide_eq_true h4]
              exact ihk false (by omega) hk (.inr (next (by rw [Ne, hdn]; omega)))
            · rw [decide_eq_false h4]
              exact ihk true (by omega) hk (.inl rfl)
          · rw [if_neg h3]
            exact ihk true (by omega) hk (.inl rfl)
      · rw [if_neg h1]
        rw [if_neg (show ¬ bt s (i : Int) ≥ 97 by omega)]
        exact ihk true (by omega) hk (.inl rfl)

theorem hex_back (s : ByteArray) : (strOfNums (ev_str s)).toList = s.toList := by
  rw [ByteArray.toList_eq, ByteArray.toList_eq, strOfNums_data]
  unfold ev_str
  rw [List.map_map]
  conv => rhs; rw [← List.map_id s.data.toList]
  apply List.map_congr_left
  intro b _
  simp

theorem NumHex : fairleadlaw01_NumHex.Pure := by
  intro s hs
  refine ⟨s.size + 30, ?_⟩
  unfold fairleadlaw01_NumHex.f
  by_cases hodd : s.size % 2 = 1
  · rw [ev_Unhex_odd s (by omega) hodd]
    simp only [Option.bind_some]
    rw [if_neg (by decide), show (((s.size : Int) % 2) == 1) = true from by rw [beq_iff_eq]; omega]
    have := hex_loop s hs s.size 29 0 true (by omega) (by omega) (.inl rfl)
    rw [show 29 + s.size + 1 = s.size + 30 from by omega] at this
    exact this
  · have heven : s.size % 2 = 0 := by omega
    rw [ev_Unhex_even s (by omega) heven _ (by omega)]
    cases hu : ev_un (ev_str s) with
    | none =>
      rw [show ev_all none [] = (([] : List Int), false) from rfl]
      simp only [Option.bind_some]
      rw [if_neg (by decide), show (((s.size : Int) % 2) == 1) = false from by rw [beq_eq_false_iff_ne]; omega]
      obtain ⟨c, hc, hd⟩ := hex_bad _ (by rw [ev_str_length]; exact heven) hu
      obtain ⟨j, hj, rfl⟩ := List.getElem_of_mem hc
      have hj' : j < s.size := by rw [← ev_str_length]; exact hj
      have := hex_loop s hs s.size 29 0 false (by omega) (by omega) (.inr ⟨j, by omega, hj', by rw [ev_bt s j hj']; exact hd⟩)
      rw [show 29 + s.size + 1 = s.size + 30 from by omega] at this
      exact this
    | some l =>
      rw [show ev_all (some l) [] = (l, true) from rfl]
      simp only [Option.bind_some, if_true]
      obtain ⟨e1, e2⟩ := ev_hexs_un _ l (by rw [ev_str_length]; exact heven) hu
      have hlen : 2 * l.length = s.size := by rw [← ev_hexs_length, e1, ev_str_length]
      rw [ev_Hex l e2 (by omega) _ (by omega), e1]
      simp only [Option.bind_some]
      rw [if_pos (hex_back s), if_pos (by unfold wrap64; omega), ev_heads _ (by omega)]
      rfl

end Go.Proofs.Ytkicclfokhfeiaa.Pure
