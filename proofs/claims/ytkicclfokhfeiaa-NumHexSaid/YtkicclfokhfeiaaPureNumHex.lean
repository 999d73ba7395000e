/- Proves that digits that are read are written as they were, and are just those of 16: for every text, no condition but the row's own bound. -/
import Derived.Test.YtkicclfokhfeiaaEvalHexNumHex
namespace Go.Proofs.Ytkicclfokhfeiaa.Pure
open Go.RowKit Go.Proofs.Ytkicclfokhfeiaa.PNumHex Go.Proofs.YtkicclfokhfeiaaW.PrintWords Go.Proofs.YtkicclfokhfeiaaW.PrintLast

theorem hex_dg_none (c : Int) : ev_dg c = none ↔ ¬ ((48 ≤ c ∧ c ≤ 57) ∨ (97 ≤ c ∧ c ≤ 102)) := by
  unfold ev_dg
  split
  · rename_i h; simp [h]
  · rename_i h
    split
    · rename_i h2; simp [h2]
    · rename_i h2; simp only [true_iff]; omega

/-- Digits that could not be read: one of them is none of 16. -/
theorem hex_bad (l : List Int) (hl : l.length % 2 = 0) (h : ev_un l = none) : ∃ c ∈ l, ev_dg c = none := by
  induction l using ev_un.induct with
  | case1 c d s a b r e3 e2 e1 ih => simp [ev_un, e1, e2, e3] at h
  | case2 c d s hno ih =>
    cases e1 : ev_dg c with
    | none => exact ⟨c, by simp, e1⟩
    | some a => cases e2 : ev_dg d with
      | none => exact ⟨d, by simp, e2⟩
      | some b => cases e3 : ev_un s with
        | none =>
          obtain ⟨x, hx, e⟩ := ih (by simp at hl; omega) e3
          exact ⟨x, by simp [hx], e⟩
        | some r =>
          first
            | exact (hno _ _ _ e1 e2 e3).elim
            | exact (hno _ _ _ e3 e2 e1).elim
  | case3 s hno =>
    have : s = [] := by
      match s, hno with
      | [], _ => rfl
      | [c], _ => simp at hl
      | c :: d :: l, hno => exact absurd rfl (hno c d l)
    subst this
    simp [ev_un] at h

theorem hex_loop (s : ByteArray) (hs : s.size ≤ 140737488351232) (d : Nat) : ∀ (k i : Nat) (o : Bool), i + d = s.size → 20 ≤ k → (o = true ∨ ∃ j, i ≤ j ∧ j < s.size ∧ ev_dg (bt s (j : Int)) = none) →
    fairleadlaw01_NumHex.l0 (k + d + 1) s [] o (i : Int) = some true := by
  induction d with
  | zero =>
    intro k i o hi hk ho
    have : o = true := by
      rcases ho with h | ⟨j, h1, h2, _⟩
      · exact h
      · omega
    subst this
    simp only [fairleadlaw01_NumHex.l0]
    rw [if_neg (by omega)]
    simp only [if_true]
    rw [if_pos (by simp), ev_heads _ (by omega)]
    rfl
  | succ d ih =>
    intro k i o hi hk ho
    have w : wrap64 ((i : Int) + 1) = ((i + 1 : Nat) : Int) := by unfold wrap64; omega
    have ihk := ih k (i + 1)
    rw [show k + (d + 1) + 1 = (k + d + 1) + 1 from by omega]
    generalize k + d + 1 = K at ihk ⊢
    simp only [fairleadlaw01_NumHex.l0]
    rw [if_pos (Int.ofNat_lt.2 (by omega)), w]
    cases o with
    | true =>
      rw [if_pos rfl]
      exact ihk true (by omega) hk (.inl rfl)
    | false =>
      have ho' : ∃ j, i ≤ j ∧ j < s.size ∧ ev_dg (bt s (j : Int)) = none := ho.resolve_left (by decide)
      have next : ev_dg (bt s (i : Int)) ≠ none → ∃ j, i + 1 ≤ j ∧ j < s.size ∧ ev_dg (bt s (j : Int)) = none := by
        intro hne
        obtain ⟨j, h1, h2, h3⟩ := ho'
        refine ⟨j, ?_, h2, h3⟩
        rcases Nat.lt_or_ge i j with h | h
        · exact h
        · exact absurd (by rw [show i = j from by omega]; exact h3) hne
      have hdn := hex_dg_none (bt s (i : Int))
      rw [if_neg (by decide), if_pos (Int.natCast_nonneg _)]
      by_cases h1 : bt s (i : Int) ≥ 48
      · rw [if_pos h1]
        by_cases h2 : bt s (i : Int) ≤ 57
        · rw [if_pos h2]
          exact ihk false (by omega) hk (.inr (next (by rw [Ne, hdn]; omega)))
        · rw [if_neg h2]
          by_cases h3 : bt s (i : Int) ≥ 97
          · rw [if_pos h3]
            by_cases h4 : bt s (i : Int) ≤ 102
            · rw [decide_eq_true h4]
              exact ihk false (by omega) hk (.inr (next (by rw [Ne, hdn]; omega)))
            · rw [decide_eq_false h4]
              exact ihk true (by omega) hk (.inl rfl)
          · rw [if_neg h3]
            exact ihk true (by omega) hk (.inl rfl)
      · rw [if_neg h1]
        rw [if_neg (show ¬ bt s (i : Int) ≥ 97 by omega)]
        exact ihk true (by omega) hk (.inl rfl)

theorem hex_back (s : ByteArray) : (strOfNums (ev_str s)).toList = s.toList := by
  rw [ByteArray.toList_eq, ByteArray.toList_eq, strOfNums_data]
  unfold ev_str
  rw [List.map_map]
  conv => rhs; rw [← List.map_id s.data.toList]
  apply List.map_congr_left
  intro b _
  simp

theorem hex_odd (s : ByteArray) (hs : s.size ≤ 140737488351232) (hodd : s.size % 2 = 1) (k : Nat) (hk : s.size + 21 ≤ k) : fairleadlaw01_NumHex.f k s = some true := by
  obtain ⟨j, rfl⟩ : ∃ j, k = j + s.size + 1 := ⟨k - (s.size + 1), by omega⟩
  have hl : fairleadlaw01_NumHex.l0 (j + s.size + 1) s [] true ((0 : Nat) : Int) = some true := hex_loop s hs s.size j 0 true (by omega) (by omega) (.inl rfl)
  have ho : (((s.size : Int) % 2) == 1) = true := by rw [beq_iff_eq]; omega
  have hu := ev_Unhex_odd s (by omega) hodd (j + s.size + 1)
  unfold fairleadlaw01_NumHex.f
  rw [hu]
  simp only [Option.bind_some]
  rw [if_neg (show ¬ (false = true) by decide), ho]
  exact hl

theorem hex_none (s : ByteArray) (hs : s.size ≤ 140737488351232) (heven : s.size % 2 = 0) (hn : ev_un (ev_str s) = none) (k : Nat) (hk : s.size + 21 ≤ k) : fairleadlaw01_NumHex.f k s = some true := by
  obtain ⟨c, hc, hd⟩ := hex_bad _ (by rw [ev_str_length]; exact heven) hn
  obtain ⟨i, hi, hci⟩ := List.getElem_of_mem hc
  have hi' : i < s.size := by rw [← ev_str_length]; exact hi
  have hdi : ev_dg (bt s (i : Int)) = none := by rw [ev_bt s i hi', hci]; exact hd
  obtain ⟨j, rfl⟩ : ∃ j, k = j + s.size + 1 := ⟨k - (s.size + 1), by omega⟩
  have hl : fairleadlaw01_NumHex.l0 (j + s.size + 1) s [] false ((0 : Nat) : Int) = some true := hex_loop s hs s.size j 0 false (by omega) (by omega) (.inr ⟨i, Nat.zero_le _, hi', hdi⟩)
  have ho : (((s.size : Int) % 2) == 1) = false := by rw [beq_eq_false_iff_ne]; omega
  have hu := ev_Unhex_even s (by omega) heven (j + s.size + 1) (by omega)
  rw [hn, show ev_all none [] = (([] : List Int), false) from rfl] at hu
  unfold fairleadlaw01_NumHex.f
  rw [hu]
  simp only [Option.bind_some]
  rw [if_neg (show ¬ (false = true) by decide), ho]
  exact hl

theorem hex_some (s : ByteArray) (hs : s.size ≤ 140737488351232) (heven : s.size % 2 = 0) (l : List Int) (hn : ev_un (ev_str s) = some l) (k : Nat) (hk : s.size + 21 ≤ k) : fairleadlaw01_NumHex.f k s = some true := by
  obtain ⟨e1, e2⟩ := ev_hexs_un _ l (by rw [ev_str_length]; exact heven) hn
  have hlen : 2 * l.length = s.size := by rw [← ev_hexs_length, e1, ev_str_length]
  have hu := ev_Unhex_even s (by omega) heven k (by omega)
  rw [hn, show ev_all (some l) [] = (l, true) from rfl] at hu
  have hx := ev_Hex l e2 (by omega) k (by omega)
  rw [e1] at hx
  have hw : wrap64 (2 * (l.length : Int)) = (s.size : Int) := by unfold wrap64; omega
  have hh := ev_heads k (by omega)
  have hb := hex_back s
  unfold fairleadlaw01_NumHex.f
  rw [hu, Option.bind_some]
  rw [if_pos (show ((l, true) : List Int × Bool).2 = true from rfl)]
  show ((num_Hex.f k l).bind fun t158 => (if t158.toList = s.toList then (if (wrap64 (2 * (l.length : Int))) = (s.size : Int) then ((fairleadlaw01_heads.f k).bind fun t159 => (some t159)) else (some false)) else (some false))) = some true
  rw [hx, Option.bind_some, if_pos hb, if_pos hw, hh, Option.bind_some]

theorem NumHex : fairleadlaw01_NumHex.Pure := by
  intro s hs
  refine ⟨s.size + 21, ?_⟩
  by_cases hodd : s.size % 2 = 1
  · exact hex_odd s hs hodd _ (Nat.le_refl _)
  · cases hu : ev_un (ev_str s) with
    | none => exact hex_none s hs (by omega) hu _ (Nat.le_refl _)
    | some l => exact hex_some s hs (by omega) l hu _ (Nat.le_refl _)

end Go.Proofs.Ytkicclfokhfeiaa.Pure
