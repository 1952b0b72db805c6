/-
  From the row's reading of an argument to the words of the walks.
-/
import Derived.Test.YtnfflpaipabbmaaDoorRows
import Derived.Test.YtnfflpaipabbmaaDoorOwn
import Derived.ProofKit
import Derived.OpenShut
import Derived.ShutString
import Derived.ChangeOld
import Derived.Lib.SmallJoins
import Derived.Deep.Slices
import Derived.Deep.Fields
namespace Go.Proofs.YtnfflpaipabbmaaDoor
set_option maxRecDepth 100000
open Go.RowKit Go.ChangeShapes Go.WideShapes Go.ChangeAt Go.Joins Go.Deep
theorem own : ownKnob Tryd.prog.godebug = none := by kernel_rfl
theorem laidOut : laidOutB Tryd.prog = true := by kernel_rfl
theorem cell_lt {w : World} {a : Addr} {v : Value} (h : w.cell? a = some v) : a.block < w.heap.size := by
  rcases Nat.lt_or_ge a.block w.heap.size with hlt | hge
  · exact hlt
  · simp [World.cell?, Array.getElem?_eq_none hge] at h
section
variable {H : Type} {enc : TypeId × Value → H} {P : Program} {w : World} {base : Nat} {spare : Nat → Bool} {held : Bool}
theorem open_bytes {v : Value} {d : DataW H} {ps : List MemPlace} (hv : Value.okWide Tryd.prog w .any base 34 v) (h : DataW.Trod enc Tryd.prog w 0 (fun _ => true) held 34 v d ps) :
    ∃ A n c, v = .slice A n c ∧ n ≤ maxLen ∧ IsBytes w A n c := by
  obtain ⟨a0, len0, cap0, rfl⟩ := okWide_slice Tryd.underlying34 hv
  obtain ⟨fuel, hf⟩ := h
  refine ⟨a0, len0, cap0, rfl, ?_⟩
  rcases open_ints Tryd.underlying34 Tryd.underlying5 (by kernel_rfl) hf with ⟨hcs, _⟩ | ⟨x, l, c, zs, hcs, _, hl, hm, hz, _, hcell, hwz⟩
  · simp [Value.cells] at hcs
    obtain ⟨rfl, rfl, rfl⟩ := hcs
    exact ⟨Nat.zero_le _, ⟨Nat.le_refl _, Nat.zero_le _⟩, fun k hk => absurd hk (by omega)⟩
  · simp [Value.cells] at hcs
    obtain ⟨rfl, rfl, rfl⟩ := hcs
    refine ⟨by omega, ⟨hl, hm⟩, fun k hk => ?_⟩
    have hzl : zs.length = cap0 := by simpa using hz
    have hc := hcell k (by omega)
    have hc0 := hcell 0 (by omega)
    obtain ⟨b, off, spot⟩ := x
    have hspot : spot = none := by simpa [Addr.add] using World.cell?_spot hc0
    subst hspot
    have hc' : w.cell? ⟨b, off + k, none⟩ = some (.int .u8 (zs.getD k 0)) := by
      rw [← hc]
      unfold Addr.add
      split
      · subst_vars; rfl
      · rfl
    have hw := hwz (zs.getD k 0) (by rw [List.getD_eq_getElem?_getD, List.getElem?_eq_getElem (by omega)]; simp)
    have hr := bounds_u8 hw
    exact ⟨b, off, _, rfl, cell_lt hc', hc', hr.1, hr.2⟩
theorem open_slice_fields {t e : TypeId} {fs : Array Field} {fuel : Nat} {cs : List Value} {x : DataW H × List MemPlace} (ht : P.underlying t = some (.slice e)) (he : P.underlying e = some (.struct fs))
    (hone : oneCellFields P fs = true) (hC : P.cellsOf e = fs.size) (h : DataW.trod enc P w base spare held fuel t cs = some x) :
    (cs = [.slice none 0 0] ∧ x = (.nil, [])) ∨
    ∃ (a : Addr) (len cap m : Nat), cs = [.slice (some a) len cap] ∧ len ≤ cap ∧ cap ≤ maxLen ∧ m = (if spare a.block then cap else len) ∧
      ∀ i, i < m → ∃ (n : Nat),
        ∀ (j : Nat) (f : Field), fs[j]? = some f → ∃ (v : Value) (y : DataW H × List MemPlace), w.cell? (a.add (i * fs.size + j)) = some v ∧ DataW.trod enc P w base spare held n f.type [v] = some y := by
  rcases open_slice ht h with h0 | ⟨a, len, cap, m, n, D, Pl, hcs, hb, hl, hm, hmm, hx, hi⟩
  · exact .inl h0
  · refine .inr ⟨a, len, cap, m, hcs, hl, hm, hmm, fun i him => ?_⟩
    obtain ⟨cs', hc, ht'⟩ := hi i him
    rw [hC] at hc
    obtain ⟨ys, n', hn', hy, hlen, hyl, hf⟩ := DataW.trod_struct he ht'
    obtain ⟨_, hcl, hat⟩ := World.cells?_some hc
    refine ⟨n', fun j f hj => ?_⟩
    obtain ⟨ho, hk⟩ := hone_of hone j f hj
    have hjl : j < fs.size := (Array.getElem?_eq_some_iff.1 hj).1
    have hcell := hat j hjl
    have hv : cs'[j]? = some (cs'[j]'(by omega)) := List.getElem?_eq_getElem (by omega)
    have h1 := hf j f hj
    rw [ho, hk] at h1
    have hone' : (cs'.drop j).take 1 = [cs'[j]'(by omega)] := by
      rw [List.drop_eq_getElem_cons (by omega)]
      rfl
    rw [hone'] at h1
    have hys : ys[j]? = some (ys[j]'(by omega)) := List.getElem?_eq_getElem (by omega)
    refine ⟨_, _, ?_, h1.trans hys⟩
    rw [← Go.Deep.add_add, hcell, hv]
theorem add_none {b o k : Nat} : (⟨b, o, none⟩ : Addr).add k = ⟨b, o + k, none⟩ := by
  unfold Addr.add
  split
  · subst_vars; rfl
  · rfl
theorem open_tasks {v : Value} {d : DataW H} {ps : List MemPlace} (hv : Value.okWide Tryd.prog w .any base 41 v) (h : DataW.Trod enc Tryd.prog w 0 (fun _ => true) held 41 v d ps) :
    ∃ A n c ts, v = .slice A n c ∧ n ≤ maxLen ∧ IsTs w A n ts := by
  obtain ⟨a0, len0, cap0, rfl⟩ := okWide_slice Tryd.underlying41 hv
  obtain ⟨fuel, hf⟩ := h
  rcases open_slice_fields Tryd.underlying41 Tryd.underlying23 (by kernel_rfl) (by kernel_rfl) hf with ⟨hcs, _⟩ | ⟨a, len, cap, m, hcs, hl, hm, hmm, hi⟩
  · simp [Value.cells] at hcs
    obtain ⟨rfl, rfl, rfl⟩ := hcs
    exact ⟨_, _, _, [], rfl, Nat.zero_le _, rfl, fun k t ht => by simp at ht⟩
  · simp [Value.cells] at hcs
    obtain ⟨rfl, rfl, rfl⟩ := hcs
    have hmc : m = cap0 := by simpa using hmm
    have hsp : 0 < len0 → a.spot = none := by
      intro h0
      obtain ⟨n, hfl⟩ := hi 0 (by omega)
      obtain ⟨v0, y0, hc0, _⟩ := hfl 0 _ rfl
      simpa [Addr.add] using World.cell?_spot hc0
    have each : ∀ k, k < len0 → ∃ t : Tk, ∃ b o, some a = some ⟨b, o, none⟩ ∧ b < w.heap.size ∧ TkAt w b (o + k * 5) t := by
      intro k hk
      obtain ⟨n, hfl⟩ := hi k (by omega)
      obtain ⟨v0, y0, hc0, ht0⟩ := hfl 0 _ rfl
      obtain ⟨v1, y1, hc1, ht1⟩ := hfl 1 _ rfl
      obtain ⟨v2, y2, hc2, ht2⟩ := hfl 2 _ rfl
      obtain ⟨v3, y3, hc3, ht3⟩ := hfl 3 _ rfl
      obtain ⟨v4, y4, hc4, ht4⟩ := hfl 4 _ rfl
      obtain ⟨x0, e0, _, _⟩ := DataW.trod_int Tryd.underlying3 ht0
      obtain ⟨x1, e1, _, _⟩ := DataW.trod_int Tryd.underlying3 ht1
      obtain ⟨x2, e2, _, _⟩ := DataW.trod_int Tryd.underlying3 ht2
      obtain ⟨x3, e3, _, _⟩ := DataW.trod_int Tryd.underlying3 ht3
      obtain ⟨x4, e4, _⟩ := DataW.trod_bool Tryd.underlying4 ht4
      simp at e0 e1 e2 e3 e4
      subst e0 e1 e2 e3 e4
      have hspot := hsp (by omega)
      obtain ⟨b, off, spot⟩ := a
      simp only at hspot
      subst hspot
      rw [add_none] at hc0 hc1 hc2 hc3 hc4
      exact ⟨⟨x0, x1, x2, x3, x4⟩, b, off, rfl, cell_lt hc0, hc0, hc1, hc2, hc3, hc4⟩
    have H2 : ∀ n, n ≤ len0 → ∃ ts : List Tk, ts.length = n ∧ ∀ (k : Nat) (t : Tk), ts[k]? = some t → ∃ b o, some a = some ⟨b, o, none⟩ ∧ b < w.heap.size ∧ TkAt w b (o + k * 5) t := by
      intro n
      induction n with
      | zero => exact fun _ => ⟨[], rfl, fun k t ht => by simp at ht⟩
      | succ n ih =>
        intro hn
        obtain ⟨ts, hts, hall⟩ := ih (by omega)
        obtain ⟨t, ht⟩ := each n (by omega)
        refine ⟨ts ++ [t], by simp [hts], fun k u hu => ?_⟩
        by_cases hk : k < n
        · exact hall k u (by rwa [List.getElem?_append_left (by omega)] at hu)
        · have : k = n := by
            have := lt_of_at hu
            simp at this
            omega
          subst this
          rw [List.getElem?_append_right (by omega)] at hu
          simp [hts] at hu
          subst hu
          exact ht
    obtain ⟨ts, hts, hall⟩ := H2 len0 (Nat.le_refl _)
    exact ⟨_, _, _, ts, rfl, by omega, hts, hall⟩
theorem open_agg5 {r : Reach} {b0 : Nat} {t : TypeId} {f0 f1 f2 f3 f4 : Field} {v : Value} {d : DataW H} {p : List MemPlace} (hs : P.underlying t = some (.struct #[f0, f1, f2, f3, f4])) (hone : oneCellFields P #[f0, f1, f2, f3, f4] = true) (hC : P.cellsOf t = 5)
    (hv : Value.okWide P w r b0 t v) (h : DataW.Trod enc P w base spare held t v d p) :
    ∃ (v0 v1 v2 v3 v4 : Value) (y0 y1 y2 y3 y4 : DataW H × List MemPlace) (n : Nat), v = .agg #[v0, v1, v2, v3, v4] ∧
      DataW.trod enc P w base spare held n f0.type [v0] = some y0 ∧ DataW.trod enc P w base spare held n f1.type [v1] = some y1 ∧ DataW.trod enc P w base spare held n f2.type [v2] = some y2 ∧ DataW.trod enc P w base spare held n f3.type [v3] = some y3 ∧ DataW.trod enc P w base spare held n f4.type [v4] = some y4 := by
  obtain ⟨cs, rfl, hsz⟩ := okWide_struct hs hv
  obtain ⟨l⟩ := cs
  match l, hsz.trans hC with
  | [c0, c1, c2, c3, c4], _ =>
    obtain ⟨fuel, hf⟩ := h
    obtain ⟨xs, n, _, hx, _, hlen, hg⟩ := DataW.trod_struct hs hf
    obtain ⟨o0, k0⟩ := hone_of hone 0 f0 rfl
    obtain ⟨o1, k1⟩ := hone_of hone 1 f1 rfl
    obtain ⟨o2, k2⟩ := hone_of hone 2 f2 rfl
    obtain ⟨o3, k3⟩ := hone_of hone 3 f3 rfl
    obtain ⟨o4, k4⟩ := hone_of hone 4 f4 rfl
    match xs, hlen with
    | [y0, y1, y2, y3, y4], _ =>
      exact ⟨c0, c1, c2, c3, c4, y0, y1, y2, y3, y4, n, rfl, by simpa [Value.cells, o0, k0] using hg 0 f0 rfl, by simpa [Value.cells, o1, k1] using hg 1 f1 rfl, by simpa [Value.cells, o2, k2] using hg 2 f2 rfl, by simpa [Value.cells, o3, k3] using hg 3 f3 rfl, by simpa [Value.cells, o4, k4] using hg 4 f4 rfl⟩
theorem open_task {v : Value} {d : DataW H} {ps : List MemPlace} (hv : Value.okWide Tryd.prog w .any base 23 v) (h : DataW.Trod enc Tryd.prog w 0 (fun _ => true) held 23 v d ps) :
    ∃ (l h d e : Int) (c : Bool), v = .agg #[.int .i64 l, .int .i64 h, .int .i64 d, .int .i64 e, .bool c] := by
  obtain ⟨v0, v1, v2, v3, v4, y0, y1, y2, y3, y4, n, rfl, ht0, ht1, ht2, ht3, ht4⟩ := open_agg5 Tryd.underlying23 (by kernel_rfl) (by kernel_rfl) hv h
  obtain ⟨x0, e0, _, _⟩ := DataW.trod_int Tryd.underlying3 ht0
  obtain ⟨x1, e1, _, _⟩ := DataW.trod_int Tryd.underlying3 ht1
  obtain ⟨x2, e2, _, _⟩ := DataW.trod_int Tryd.underlying3 ht2
  obtain ⟨x3, e3, _, _⟩ := DataW.trod_int Tryd.underlying3 ht3
  obtain ⟨x4, e4, _⟩ := DataW.trod_bool Tryd.underlying4 ht4
  simp at e0 e1 e2 e3 e4
  subst e0 e1 e2 e3 e4
  exact ⟨x0, x1, x2, x3, x4, rfl⟩
theorem open_share {v : Value} {d : DataW H} {ps : List MemPlace} (hv : Value.okWide Tryd.prog w .any base 29 v) (h : DataW.Trod enc Tryd.prog w 0 (fun _ => true) held 29 v d ps) :
    ∃ (a b : Int), v = .agg #[.int .i64 a, .int .i64 b] := by
  obtain ⟨v0, v1, y0, y1, n, rfl, _, _, ht0, ht1⟩ := open_agg2 Tryd.underlying29 (by kernel_rfl) (by kernel_rfl) hv h
  obtain ⟨x0, e0, _, _⟩ := DataW.trod_int Tryd.underlying3 ht0
  obtain ⟨x1, e1, _, _⟩ := DataW.trod_int Tryd.underlying3 ht1
  simp at e0 e1
  subst e0 e1
  exact ⟨x0, x1, rfl⟩
end
end Go.Proofs.YtnfflpaipabbmaaDoor
