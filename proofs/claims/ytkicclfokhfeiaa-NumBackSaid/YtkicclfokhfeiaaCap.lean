/- Words beside the print's: a row of the call's own that is made with room, and appended to within that room: of any size. -/
import Derived.Test.YtkicclfokhfeiaaMore
namespace Go.Proofs.YtkicclfokhfeiaaW.PrintWords
open Go.RowKit
namespace Kd
theorem R_make0_cap {α : Type} (d : Kd α) {P : Program} {ops : Array Oper} {Q : Exit → Act → World → Prop} {rest : List Oper} {o : Oper} {a : Act} {w0 W : World} (base e : Nat) (hgd : o.guard = none) {N : Tmp} (_hd : o.dst = some N) (t : TypeId) (x y : Operand) (ho : o.op = .makeSlice t x y) (n : Int) (hx : a.eval x = .int .i64 0) (hy : a.eval y = .int .i64 n)
    (ht : P.underlying t = some (.slice e)) (z : Value) (bytes : Nat) (hinfo : (P.info? e).map (fun i => (i.zero, i.size, i.bytes)) = some (some z, d.sz, bytes)) (_hz : z.cells.size = d.sz) (_hs0 : 0 < d.sz) (hb0 : 0 < bytes)
    {ok : Nat → Prop} (hfresh : ok W.heap.size) (h0 : 0 ≤ n) (hl : n.toNat * bytes ≤ 281474976710656) (HB : Below base w0 W) (hbase : base ≤ W.heap.size)
    (h : ∀ v1 w1, v1 = .slice (some ⟨W.heap.size, 0, none⟩) 0 n.toNat → d.R e w1 base ok v1 [] → Below base w0 w1 → W.grownBy w1 none → (∃ b, v1.ownBlock = some b ∧ W.heap.size ≤ b) → wpList P ops Q rest (a.put o.dst v1) w1) : wpList P ops Q (o :: rest) a W := by
  obtain ⟨m, rfl⟩ := Int.eq_ofNat_of_zero_le h0
  simp only [Int.toNat_natCast] at hl
  obtain ⟨i0, hi, hzz⟩ := Option.map_eq_some_iff.1 hinfo
  simp only [Prod.mk.injEq] at hzz
  obtain ⟨hz0, hz1, hz2⟩ := hzz
  have hm : m ≤ 281474976710656 := Nat.le_trans (Nat.le_mul_of_pos_right _ hb0) hl
  have hr := run_make (P := P) W t e i0 z ht hi hz0 .i64 .i64 0 (m : Int) (by omega) (by omega)
    (by
      have h3 : ((i0.bytes * m : Nat) : Int) ≤ 281474976710656 := by rw [hz2, Nat.mul_comm]; omega
      rwa [Int.natCast_mul] at h3) (by omega)
  simp only [Int.toNat_natCast, Int.toNat_zero] at hr
  rw [hz1] at hr
  refine event_run hgd (v := .slice (some ⟨W.heap.size, 0, none⟩) 0 m) (w1 := W.alloc (.cells (madeCells z.cells (m * d.sz)) e)) ?_ (h _ _ (by rw [Int.toNat_natCast]) ⟨fun k hk => ?_, [], ?_, ?_⟩ (HB.alloc hbase _) (World.grownBy_alloc W _ none) ⟨W.heap.size, by simp [Value.ownBlock], Nat.le_refl _⟩)
  · simp [execOp, ho, hx, hy, hr]
  · have : W.heap.size = k := by simpa [Value.ownBlock] using hk
    subst this
    exact hfresh
  · exact ⟨by simp, .inr ⟨W.heap.size, m, _, rfl, hbase, blk_new _ _, by simp, by unfold maxLen; omega, by simp [size_madeCells], by simp⟩⟩
  · exact Reps.none _ _

theorem R_append_rows_cap_step {P : Program} {ops : Array Oper} {o : Oper} {a : Act} {Q : Exit → Act → World → Prop} {Kc : Act → World → Prop} {α : Type} (d : Kd α) {Rr : α → List Value → Prop} {w0 W : World} (base : Nat) (hw : Region.wanted o (yielded ops a.tmps) = true) (s x : Operand) (t e : TypeId) (z : Value) (bytes : Nat)
    (ho : o.op = .call { callee := .builtin .append, args := #[s, x], argTypes := #[t, t] })
    (ht : P.underlying t = some (.slice e)) (hinfo : (P.info? e).map (fun i => (i.zero, i.size, i.bytes)) = some (some z, d.sz, bytes)) (hs0 : 0 < d.sz)
    (v : Value) (xs ys : List α) (A : Option Addr) (m c : Nat) (ok okp : Nat → Prop) (hs : a.eval s = v) (hx : a.eval x = .slice A m c)
    (HO : d.R e W base ok v xs) (HR : ReadsRow Rr d.sz W A m ys) (hKM : ∀ x cs, Rr x cs → d.M W base okp x cs) (hokp : ∀ k, okp k → ok k ∧ some k ≠ v.ownBlock)
    (HB : Below base w0 W) (hbase : base ≤ W.heap.size) {G C : Nat} (hv : v = .slice (some ⟨G, 0, none⟩) xs.length C) (hl : xs.length + m ≤ C)
    (h : ∀ v1 w1, v1 = .slice (some ⟨G, 0, none⟩) (xs ++ ys).length C → d.R e w1 base ok v1 (xs ++ ys) → Below base w0 w1 → W.grownBy w1 v.ownBlock → (v1.ownBlock = v.ownBlock ∨ ∃ b, v1.ownBlock = some b ∧ W.heap.size ≤ b) → Kc (a.put o.dst v1) w1) :
    if Region.wanted o (yielded ops a.tmps) = true then Oper.wp P o a W Kc Q else Kc (a.put o.dst undef) W := by
  obtain ⟨i0, hi, hzz⟩ := Option.map_eq_some_iff.1 hinfo
  simp only [Prod.mk.injEq] at hzz
  obtain ⟨_, hz1, _⟩ := hzz
  have hm : ys.length = m := HR.1
  obtain ⟨hok, inner, hown, hr⟩ := HO
  have hrun : ∃ v1 w1, (Builtin.append_ #[t, t] o.type #[v, .slice A m c]).run P W = .ok v1 w1 ∧ v1 = .slice (some ⟨G, 0, none⟩) (xs ++ ys).length C ∧ d.R e w1 base ok v1 (xs ++ ys) ∧ W.grownBy w1 v.ownBlock ∧ v1.ownBlock = v.ownBlock := by
    rcases A with _ | ad
    · have h0 : m = 0 := by
        rcases Nat.eq_zero_or_pos m with h0 | h0
        · exact h0
        · obtain ⟨ad, h, _⟩ := HR.2.2 h0
          cases h
      subst h0
      obtain rfl : ys = [] := List.eq_nil_of_length_eq_zero hm
      refine ⟨v, W, ?_, by rw [List.append_nil]; exact hv, by rw [List.append_nil]; exact ⟨hok, inner, hown, hr⟩, World.grownBy.refl W _, rfl⟩
      subst hv
      have hl0 : xs.length ≤ C := by omega
      simp [Builtin.append_, run_underlying ht, sizeOf, typeInfo, hi, Builtin.lenOf, Builtin.firstCells, hl0, storeCells]
    · obtain ⟨news, hnr, hnc⟩ := ReadsRow.inner_ HR
      have hnM : Reps (d.M W base okp) d.sz ys news := hnr.imp_ (fun p c hp => hKM p c hp)
      have hone : ∀ u ∈ news, u.oneCell' = true := by
        intro u hu
        obtain ⟨q, hq, rfl⟩ := List.mem_iff_getElem.1 hu
        have hql : q / d.sz < ys.length := by
          rw [Nat.div_lt_iff_lt_mul hs0]
          rw [← hnM.1]
          exact hq
        have hc := hnM.2 (q / d.sz) _ (List.getElem?_eq_getElem hql)
        refine d.K_one (d.K_of_M hc) _ ?_
        rw [List.mem_iff_getElem?]
        refine ⟨q % d.sz, ?_⟩
        rw [List.getElem?_take, if_pos (Nat.mod_lt _ hs0), List.getElem?_drop, Nat.mul_comm, Nat.div_add_mod, List.getElem?_eq_getElem hq]
      have hown' := hown
      obtain ⟨hil, hn | ⟨g, cap, cur, he, hbg, hg, hnc', hcm, hcs, htake⟩⟩ := hown
      · rw [hv] at hn
        exact absurd hn.1 (by simp)
      · rw [hv] at he
        injection he with he1 he2 he3
        injection he1 with he1
        injection he1 with he1 _ _
        subst he1 he3 hv
        have hl2 : news.length = m * d.sz := by rw [hnM.1, hm]
        have hfit : xs.length * i0.size + news.length ≤ cur.size := by rw [hl2, hcs, hz1, ← Nat.add_mul]; exact Nat.mul_le_mul_right _ hl
        have hr1 := run_append_room (P := P) W t o.type e i0 ht hi G xs.length C cur hg ad m c news (by rw [hz1]; exact hl2) hnc hone hl hfit
        have hlen : (inner ++ news).length = (xs ++ ys).length * d.sz := by rw [List.length_append, hil, hl2, List.length_append, hm, Nat.add_mul]
        have hgr : W.grownBy (W.setRow G (cur.toList.take (xs.length * i0.size) ++ news ++ cur.toList.drop (xs.length * i0.size + news.length)).toArray) (Value.ownBlock (.slice (some ⟨G, 0, none⟩) xs.length C)) :=
          ⟨rfl, rfl, rfl, by simp, fun k _ hk => setRow_other W G k _ (fun e => hk (by simp [Value.ownBlock, e]))⟩
        have step : ∀ {q : α} {c : List Value} {o : Nat → Prop}, d.M W base o q c → (∀ k, o k → ok k ∧ some k ≠ Value.ownBlock (.slice (some ⟨G, 0, none⟩) xs.length C)) → d.M (W.setRow G (cur.toList.take (xs.length * i0.size) ++ news ++ cur.toList.drop (xs.length * i0.size + news.length)).toArray) base (fun k => ok k ∧ some k ≠ Value.ownBlock (.slice (some ⟨G, 0, none⟩) (xs ++ ys).length C)) q c := by
          intro q c o hq ho
          have h1 := d.M_move (w1 := W.setRow G (cur.toList.take (xs.length * i0.size) ++ news ++ cur.toList.drop (xs.length * i0.size + news.length)).toArray) (fun k hk => hgr.block k hk.2.2.1 (ho k hk.1).2) (d.M_bound hq)
          exact d.M_mono (fun k hk => ⟨(ho k hk.1).1, (ho k hk.1).2⟩) h1
        refine ⟨_, _, hr1, by rw [List.length_append, hm], ⟨fun k hk => hok k hk, inner ++ news, ⟨hlen, .inr ⟨G, C, _, by rw [List.length_append, hm], hbg, setRow_heap W G cur _ e _ hg, by rw [List.length_append, hm]; exact hl, hcm, ?_, ?_⟩⟩, ?_⟩, hgr, rfl⟩
        · simp only [List.size_toArray, List.length_append, List.length_take, List.length_drop, Array.length_toList]
          omega
        · rw [hz1, htake, ← hlen]
          exact List.take_left
        · exact reps_append (hr.imp_ (fun _ _ hq => by have := step hq (fun _ hk => hk); rw [List.length_append, hm] at this; exact this)) (hnM.imp_ (fun _ _ hq => by have := step hq hokp; rw [List.length_append, hm] at this; exact this))
  obtain ⟨v1, w1, hr1, hv1, h1, hg, hat⟩ := hrun
  rw [if_pos hw]
  unfold Oper.wp execOp
  simp only [ho, resolve, invoke, builtin, Sem.run_bind, Sem.run_pure, Result.andThen_ok, List.map_toArray, List.map_cons, List.map_nil, hs, hx, hr1]
  exact h v1 w1 hv1 h1 (HB.grown hg hbase (own_base hown)) hg (.inl hat)
end Kd
end Go.Proofs.YtkicclfokhfeiaaW.PrintWords
