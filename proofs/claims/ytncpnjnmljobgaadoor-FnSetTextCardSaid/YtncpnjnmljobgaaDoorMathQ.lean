/-
  Plain words on parsing sets.
-/
import Derived.Test.YtncpnjnmljobgaaDoorPCand
import Derived.Test.YtncpnjnmljobgaaDoorSetT
import Derived.Lib.SplitLaws
namespace Go.Proofs.YtncpnjnmljobgaaDoor
set_option maxRecDepth 100000
theorem fmtT_nn {t : Tk} (h : t.ok = true) : fmtT t ≠ [] := by
  rw [fmtT_yes h]
  unfold fmtL
  cases hq : dec t.low with
  | nil => exact absurd hq (dec_ne t.low)
  | cons a b => intro hh; cases hh
/-- A task's text holds no ';'. -/
theorem fmtT_semi {t : Tk} (h : t.ok = true) : ∀ x ∈ fmtT t, x ≠ 59 := by
  obtain ⟨_, _, ⟨d0, d1⟩, ⟨e0, e1⟩⟩ := ok_bds h
  have hd : ∀ x ∈ dec t.due, x ≠ 59 := fun x hx => dg_ne_of (dec_dg2 d0 d1 x hx) (.inr (by decide))
  have he : ∀ x ∈ dec t.every, x ≠ 59 := fun x hx => dg_ne_of (dec_dg2 e0 e1 x hx) (.inr (by decide))
  have hn := need_ne h (k := 59) (.inr (by decide))
  have hv : ∀ x ∈ tEvery, x ≠ 59 := by decide
  have hb : ∀ x ∈ tBy, x ≠ 59 := by decide
  intro x hx
  rw [fmtT_need h] at hx
  rcases List.mem_append.1 hx with hx | hx
  · exact hn x hx
  rcases List.mem_append.1 hx with hx | hx
  · exact hv x hx
  rcases List.mem_append.1 hx with hx | hx
  · exact he x hx
  by_cases hde : t.due < t.every
  · rw [if_pos hde] at hx
    rcases List.mem_append.1 hx with hx | hx
    · exact hb x hx
    · exact hd x hx
  · rw [if_neg hde] at hx; cases hx
theorem joinTail_cons (sep y : List UInt8) (r : List (List UInt8)) : Lib.joinTail sep (y :: r) = sep ++ (y ++ Lib.joinTail sep r) := by
  unfold Lib.joinTail
  simp
/-- What strings.Split cuts. -/
def spl (l : List UInt8) : List (List UInt8) := Lib.split l tSep
theorem index_hit {a b : List UInt8} (h : ∀ x ∈ a, x ≠ 59) : Lib.index (a ++ (tSep ++ b)) tSep = (a.length : Int) := by
  refine Lib.index_first (by simp) ?_ ?_
  · unfold Lib.occAt
    rw [List.drop_left]
    exact List.isPrefixOf_iff_prefix.2 (List.prefix_append _ _)
  · intro j hj
    cases ho : Lib.occAt (a ++ (tSep ++ b)) tSep j
    · rfl
    · have h1 := Lib.occAt_head (show tSep = 59 :: [32] from rfl) ho
      rw [List.getElem?_append_left hj] at h1
      exact absurd rfl (h 59 (List.mem_of_getElem? h1))
theorem index_miss {a : List UInt8} (h : ∀ x ∈ a, x ≠ 59) : Lib.index a tSep = -1 := by
  refine Lib.index_none fun j _ => ?_
  cases ho : Lib.occAt a tSep j
  · rfl
  · have h1 := Lib.occAt_head (show tSep = 59 :: [32] from rfl) ho
    exact absurd rfl (h 59 (List.mem_of_getElem? h1))
theorem spl_miss {a : List UInt8} (h : ∀ x ∈ a, x ≠ 59) : spl a = [a] := by
  unfold spl Lib.split
  rw [Lib.count_miss (index_miss h)]
  rfl
theorem spl_hit {a b : List UInt8} (h : ∀ x ∈ a, x ≠ 59) : spl (a ++ (tSep ++ b)) = a :: spl b := by
  have hi := index_hit (b := b) h
  have ed : (a ++ (tSep ++ b)).drop (a.length + tSep.length) = b := by
    rw [← List.append_assoc, show a.length + tSep.length = (a ++ tSep).length by simp, List.drop_left]
  unfold spl Lib.split
  rw [Lib.count_hit (by decide) hi, ed, Nat.add_comm 1]
  unfold Lib.splitK
  rw [if_neg (by rw [hi]; intro e; have := beq_iff_eq.1 e; omega), hi]
  congr 1
  · simp
  · rw [show ((a.length : Int)).toNat + tSep.length = a.length + tSep.length by simp, ed]
    cases Lib.count b tSep <;> rfl
theorem splitK_ne (sep : List UInt8) (k : Nat) (l : List UInt8) : Lib.splitK sep 0 k l ≠ [] := by
  cases k with
  | zero => simp [Lib.splitK]
  | succ k => unfold Lib.splitK; split <;> simp
theorem join_cons' (x sep : List UInt8) {r : List (List UInt8)} (h : r ≠ []) : Lib.join (x :: r) sep = x ++ (sep ++ Lib.join r sep) := by
  cases r with
  | nil => exact absurd rfl h
  | cons y r => rw [Lib.join_cons, Lib.join_cons, joinTail_cons]
theorem splitK_join (sep : List UInt8) : ∀ (k : Nat) (l : List UInt8), Lib.join (Lib.splitK sep 0 k l) sep = l
  | 0, l => Lib.join_one _ _
  | k + 1, l => by
    unfold Lib.splitK
    split
    · exact Lib.join_one _ _
    · rename_i h
      rcases Lib.index_spec l sep with ⟨h1, _⟩ | ⟨i, h1, h2, h3, _⟩
      · exact absurd (beq_iff_eq.2 h1) h
      · rw [join_cons' _ _ (splitK_ne _ _ _), splitK_join sep k, h1]
        have hp : sep <+: l.drop i := List.isPrefixOf_iff_prefix.1 h3
        obtain ⟨m, hm⟩ := hp
        have e1 : ((i : Int)).toNat = i := by omega
        rw [e1, Nat.add_zero, ← List.drop_drop, ← hm, List.drop_left, hm, List.take_append_drop]
theorem spl_join (l : List UInt8) : Lib.join (spl l) tSep = l := splitK_join _ _ _
theorem spl_ne (l : List UInt8) : spl l ≠ [] := splitK_ne _ _ _
theorem mem_join_len {x sep : List UInt8} : ∀ {r : List (List UInt8)}, x ∈ r → x.length ≤ (Lib.join r sep).length := by
  intro r
  induction r with
  | nil => intro h; cases h
  | cons y r ih =>
    intro h
    by_cases hr : r = []
    · subst hr
      have : x = y := by simpa using h
      subst this
      rw [Lib.join_one]; exact Nat.le_refl _
    · rw [join_cons' _ _ hr]
      rcases List.mem_cons.1 h with rfl | h
      · simp
      · have := ih h; simp; omega
/-- The text of a set, cut by the program. -/
theorem spl_set : ∀ {us : List Tk}, us ≠ [] → (∀ u ∈ us, u.ok = true) → spl (Lib.join (us.map fmtT) tSep) = us.map fmtT := by
  intro us
  induction us with
  | nil => intro h; exact absurd rfl h
  | cons u us ih =>
    intro _ hok
    have hu := fmtT_semi (hok u (by simp))
    by_cases h : us = []
    · subst h
      rw [List.map_cons, List.map_nil, Lib.join_one, spl_miss hu]
    · rw [List.map_cons, join_cons' _ _ (by simpa using h), spl_hit hu, ih h fun v hv => hok v (by simp [hv])]
/-- The text of a set, cut by the reference. -/
theorem cut_set : ∀ {us : List Tk} {u : Tk}, u.ok = true → (∀ v ∈ us, v.ok = true) → cutL 59 (Lib.join ((u :: us).map fmtT) tSep) = fmtT u :: us.map (fun v => 32 :: fmtT v) := by
  intro us
  induction us with
  | nil => intro u hu _; rw [List.map_cons, List.map_nil, Lib.join_one, cutL_miss (fmtT_semi hu)]; rfl
  | cons v us ih =>
    intro u hu hok
    rw [List.map_cons, join_cons' _ _ (by simp), show tSep ++ Lib.join ((v :: us).map fmtT) tSep = 59 :: (32 :: Lib.join ((v :: us).map fmtT) tSep) from rfl, cutL_hit _ (fmtT_semi hu)]
    have hi := ih (hok v (by simp)) fun x hx => hok x (by simp [hx])
    have h32 : ∀ (l a : List UInt8) (r : List (List UInt8)), cutL 59 l = a :: r → cutL 59 (32 :: l) = (32 :: a) :: r := by
      intro l a r h
      have gen : ∀ (l cur pre : List UInt8), cutG 59 (pre ++ cur) l = match cutG 59 cur l with | [] => [] | x :: xs => (pre ++ x) :: xs := by
        intro l
        induction l with
        | nil => intro cur pre; simp [cutG]
        | cons y l ihl =>
          intro cur pre
          unfold cutG
          by_cases hy : y = 59
          · rw [if_pos hy, if_pos hy]
          · rw [if_neg hy, if_neg hy, List.append_assoc, ihl]
      unfold cutL at h ⊢
      rw [cutG, if_neg (by decide)]
      have := gen l [] [32]
      rw [h] at this
      exact this
    rw [h32 _ _ _ hi]
    rfl
theorem cutG_join (c : UInt8) : ∀ (l cur : List UInt8), Lib.join (cutG c cur l) [c] = cur ++ l := by
  intro l
  induction l with
  | nil => intro cur; simp [cutG, Lib.join_one]
  | cons x l ih =>
    intro cur
    unfold cutG
    by_cases h : x = c
    · rw [if_pos h, join_cons' _ _ (cutG_ne _ _ _), ih, h]; simp
    · rw [if_neg h, ih]; simp
theorem cutL_join (c : UInt8) (l : List UInt8) : Lib.join (cutL c l) [c] = l := cutG_join c l []
/-- What a parser of sets answers. -/
def IsPS (l : List UInt8) (ts : List Tk) (b : Bool) : Prop := (b = true ∧ svB ts = true ∧ fmtSet ts = l) ∨ (b = false ∧ ts = [] ∧ ∀ us : List Tk, svB us = true → fmtSet us ≠ l)
theorem svB_mem {us : List Tk} (h : svB us = true) : ∀ u ∈ us, u.ok = true := by
  intro u hu
  obtain ⟨k, hk⟩ := List.getElem?_of_mem hu
  exact svB_ok h hk
theorem fmtSet_nn {us : List Tk} (h : svB us = true) (hne : us ≠ []) : fmtSet us ≠ [] := by
  cases us with
  | nil => exact absurd rfl hne
  | cons u us =>
    have hu := fmtT_nn (svB_mem h u (by simp))
    rw [fmtSet_yes h, List.map_cons, Lib.join_cons]
    intro e
    exact hu (List.append_eq_nil_iff.1 e).1
theorem map_fmtT_inj : ∀ {ts us : List Tk}, (∀ t ∈ ts, t.ok = true) → (∀ u ∈ us, u.ok = true) → ts.map fmtT = us.map fmtT → ts = us := by
  intro ts
  induction ts with
  | nil => intro us _ _ h; cases us with
    | nil => rfl
    | cons _ _ => cases h
  | cons t ts ih =>
    intro us ht hu h
    cases us with
    | nil => cases h
    | cons u us =>
      rw [List.map_cons, List.map_cons] at h
      injection h with h1 h2
      rw [fmtT_one (ht t (by simp)) (hu u (by simp)) h1, ih (fun x hx => ht x (by simp [hx])) (fun x hx => hu x (by simp [hx])) h2]
theorem fmtSet_one {ts us : List Tk} (ht : svB ts = true) (hu : svB us = true) (h : fmtSet ts = fmtSet us) : ts = us := by
  by_cases h1 : ts = []
  · subst h1
    by_cases h2 : us = []
    · exact h2.symm
    · exact absurd h.symm (fmtSet_nn hu h2)
  · by_cases h2 : us = []
    · subst h2
      exact absurd h (fmtSet_nn ht h1)
    · rw [fmtSet_yes ht, fmtSet_yes hu] at h
      have e := congrArg spl h
      rw [spl_set h1 (svB_mem ht), spl_set h2 (svB_mem hu)] at e
      exact map_fmtT_inj (svB_mem ht) (svB_mem hu) e
theorem IsPS.same {l : List UInt8} {ts ts' : List Tk} {b b' : Bool} (h : IsPS l ts b) (h' : IsPS l ts' b') : ts = ts' ∧ b = b' := by
  rcases h with ⟨rfl, h1, h2⟩ | ⟨rfl, rfl, h2⟩ <;> rcases h' with ⟨rfl, h1', h2'⟩ | ⟨rfl, rfl, h2'⟩
  · exact ⟨fmtSet_one h1 h1' (h2.trans h2'.symm), rfl⟩
  · exact absurd h2 (h2' ts h1)
  · exact absurd h2' (h2 ts' h1')
  · exact ⟨rfl, rfl⟩
/-- What the loop holds behind k pieces: tasks that tell them. -/
def Held (pre : Nat → List UInt8) (xs : List (List UInt8)) (ts : List Tk) : Prop := ∀ (j : Nat) (t : Tk), ts[j]? = some t → t.ok = true ∧ xs[j]? = some (pre j ++ fmtT t)
theorem held_nil (pre : Nat → List UInt8) (xs : List (List UInt8)) : Held pre xs [] := by intro j t h; cases h
theorem held_snoc {pre : Nat → List UInt8} {xs : List (List UInt8)} {ts : List Tk} {t : Tk} (h : Held pre xs ts) (ht : t.ok = true) (hx : xs[ts.length]? = some (pre ts.length ++ fmtT t)) : Held pre xs (ts ++ [t]) := by
  intro j u hu
  by_cases hj : j < ts.length
  · rw [List.getElem?_append_left hj] at hu; exact h j u hu
  · rw [List.getElem?_append_right (by omega)] at hu
    have hj2 : j - ts.length = 0 := by
      have := (List.getElem?_eq_some_iff.1 hu).1
      simp at this
      omega
    rw [hj2] at hu
    have e : u = t := by simpa using hu.symm
    have ej : j = ts.length := by omega
    subst e ej
    exact ⟨ht, hx⟩
theorem held_svB {pre : Nat → List UInt8} {xs : List (List UInt8)} {ts : List Tk} (h : Held pre xs ts) (h5 : ts.length ≤ 5) : svB ts = true := svB_of h5 fun k t ht => (h k t ht).1
def preI : Nat → List UInt8 := fun _ => []
def preS : Nat → List UInt8 := fun j => if j = 0 then [] else [32]
theorem held_doneI {l : List UInt8} {ts : List Tk} (h : Held preI (spl l) ts) (hl : ts.length = (spl l).length) (h5 : ts.length ≤ 5) : IsPS l ts true := by
  have hv := held_svB h h5
  refine .inl ⟨rfl, hv, ?_⟩
  have e : ts.map fmtT = spl l := by
    apply List.ext_getElem?
    intro j
    rw [List.getElem?_map]
    cases hj : ts[j]? with
    | none =>
      have := List.getElem?_eq_none_iff.1 hj
      rw [List.getElem?_eq_none (by omega)]; rfl
    | some t => rw [(h j t hj).2]; rfl
  rw [fmtSet_yes hv, e, spl_join]
theorem held_doneS {l : List UInt8} {ts : List Tk} (h : Held preS (cutL 59 l) ts) (hl : ts.length = (cutL 59 l).length) (h5 : ts.length ≤ 5) : IsPS l ts true := by
  have hv := held_svB h h5
  refine .inl ⟨rfl, hv, ?_⟩
  cases ts with
  | nil =>
    have := cutL_len (c := 59) (l := l)
    simp at hl
    omega
  | cons t ts =>
    have e : cutL 59 l = fmtT t :: ts.map (fun v => 32 :: fmtT v) := by
      apply List.ext_getElem?
      intro j
      cases j with
      | zero => exact (h 0 t rfl).2
      | succ j =>
        rw [List.getElem?_cons_succ, List.getElem?_map]
        cases hj : ts[j]? with
        | none =>
          have := List.getElem?_eq_none_iff.1 hj
          rw [List.getElem?_eq_none (by simp at hl; omega)]; rfl
        | some v => rw [(h (j + 1) v hj).2]; rfl
    have hj := cutL_join 59 l
    rw [e, Lib.join_cons] at hj
    rw [fmtSet_yes hv, List.map_cons, Lib.join_cons, ← hj]
    congr 1
    unfold Lib.joinTail
    rw [List.map_map, List.map_map]
    rfl
/-- What a set's text holds at each piece. -/
theorem set_pieceI {l : List UInt8} {us : List Tk} (hl0 : l ≠ []) (hv : svB us = true) (hl : fmtSet us = l) : spl l = us.map fmtT := by
  have hne : us ≠ [] := fun e => by subst e; exact hl0 (hl.symm.trans (by rfl))
  rw [← hl, fmtSet_yes hv]
  exact spl_set hne (svB_mem hv)
theorem noI {l : List UInt8} {k : Nat} {x : List UInt8} (hl0 : l ≠ []) (hx : (spl l)[k]? = some x) (h : ∀ u : Tk, u.ok = true → fmtT u ≠ x) : IsPS l [] false := by
  refine .inr ⟨rfl, rfl, fun us hv hl => ?_⟩
  rw [set_pieceI hl0 hv hl, List.getElem?_map] at hx
  cases hu : us[k]? with
  | none => rw [hu] at hx; cases hx
  | some u =>
    rw [hu] at hx
    injection hx with hx
    exact h u (svB_ok hv hu) hx
theorem longI {l : List UInt8} (hl0 : l ≠ []) (h : 5 < (spl l).length) : IsPS l [] false := by
  refine .inr ⟨rfl, rfl, fun us hv hl => ?_⟩
  rw [set_pieceI hl0 hv hl, List.length_map] at h
  have := svB_len hv
  omega
theorem set_pieceS {l : List UInt8} {us : List Tk} (hl0 : l ≠ []) (hv : svB us = true) (hl : fmtSet us = l) : (cutL 59 l).length = us.length ∧ ∀ (k : Nat) (x : List UInt8), (cutL 59 l)[k]? = some x → ∃ u, us[k]? = some u ∧ x = preS k ++ fmtT u := by
  cases us with
  | nil => exact absurd (hl.symm.trans (by rfl)) hl0
  | cons u us =>
    have hc : cutL 59 l = fmtT u :: us.map (fun v => 32 :: fmtT v) := by
      rw [← hl, fmtSet_yes hv]
      exact cut_set (svB_mem hv u (by simp)) fun v h => svB_mem hv v (by simp [h])
    rw [hc]
    refine ⟨by simp, fun k x hx => ?_⟩
    cases k with
    | zero => exact ⟨u, rfl, by injection hx with hx; exact hx.symm⟩
    | succ k =>
      rw [List.getElem?_cons_succ, List.getElem?_map] at hx
      cases hu : us[k]? with
      | none => rw [hu] at hx; cases hx
      | some v =>
        rw [hu] at hx
        injection hx with hx
        exact ⟨v, hu, hx.symm⟩
theorem noS {l : List UInt8} {k : Nat} {x : List UInt8} (hl0 : l ≠ []) (hx : (cutL 59 l)[k]? = some x) (h : ∀ u : Tk, u.ok = true → x ≠ preS k ++ fmtT u) : IsPS l [] false := by
  refine .inr ⟨rfl, rfl, fun us hv hl => ?_⟩
  obtain ⟨u, hu, e⟩ := (set_pieceS hl0 hv hl).2 k x hx
  exact h u (svB_ok hv hu) e
theorem longS {l : List UInt8} (hl0 : l ≠ []) (h : 5 < (cutL 59 l).length) : IsPS l [] false := by
  refine .inr ⟨rfl, rfl, fun us hv hl => ?_⟩
  have h1 := (set_pieceS hl0 hv hl).1
  have := svB_len hv
  omega
theorem isPS_nil : IsPS [] [] true := .inl ⟨rfl, rfl, rfl⟩
end Go.Proofs.YtncpnjnmljobgaaDoor
