/-
  The reference's parser of tasks.
-/
import Derived.Test.YtncpnjnmljobgaaDoorCut
import Derived.Test.YtncpnjnmljobgaaDoorText2
namespace Go.Proofs.YtncpnjnmljobgaaDoor
set_option maxRecDepth 100000
open Go.RowKit
/-- t is the task that l tells; or b is false and no task is told. -/
def IsP (l : List UInt8) (t : Tk) (b : Bool) : Prop := (b = true ∧ t.ok = true ∧ fmtT t = l) ∨ (b = false ∧ t = Tk.zero ∧ ∀ u : Tk, u.ok = true → fmtT u ≠ l)
/-- What a parser of tasks answers. -/
def Parsed (w : World) (l : List UInt8) (r : Ending) (w' : World) : Prop :=
  ∃ (t : Tk) (b : Bool), r = .returned (.tuple #[.agg #[.int .i64 t.low, .int .i64 t.high, .int .i64 t.due, .int .i64 t.every, .bool t.crit], .bool b]) ∧ Below w.heap.size w w' ∧ IsP l t b
/-- What l1Need answers. -/
def NeedC (w : World) (l : List UInt8) (r : Ending) (w' : World) : Prop :=
  ∃ (a b : Int) (c ok : Bool), r = .returned (.tuple #[.agg #[.int .i64 a, .int .i64 b, .int .i64 0, .int .i64 0, .bool c], .bool ok]) ∧ Below w.heap.size w w' ∧ ∀ u : Tk, u.ok = true → l = needL u.low u.high u.crit → a = u.low ∧ b = u.high ∧ c = u.crit ∧ ok = true
theorem cutL_len {c : UInt8} {l : List UInt8} : 1 ≤ (cutL c l).length := by
  cases h : cutL c l with
  | nil => exact absurd h (cutG_ne c [] l)
  | cons _ _ => simp
/-- Every piece is no longer than the text. -/
theorem cutG_sub (c : UInt8) : ∀ (l cur : List UInt8), ∀ p ∈ cutG c cur l, p.length ≤ cur.length + l.length := by
  intro l
  induction l with
  | nil => intro cur p hp; simp [cutG] at hp; subst hp; simp
  | cons x xs ih =>
    intro cur p hp
    unfold cutG at hp
    by_cases h : x = c
    · rw [if_pos h] at hp
      rcases List.mem_cons.1 hp with rfl | hp
      · simp
      · have := ih [] p hp; simp at this ⊢; omega
    · rw [if_neg h] at hp
      have := ih _ p hp
      simp at this ⊢
      omega
theorem cutL_sub {c : UInt8} {l p : List UInt8} (h : p ∈ cutL c l) : p.length ≤ l.length := by
  have := cutG_sub c l [] p h
  simpa using this
/-- The block of a result, made at the start, behind what only makes. -/
theorem made5 {W w' : World} {T : TypeId} {u0 u1 u2 u3 u4 : Value} (hb : Below (W.alloc (.cells #[u0, u1, u2, u3, u4] T)).heap.size (W.alloc (.cells #[u0, u1, u2, u3, u4] T)) w') :
    Five w' W.heap.size u0 u1 u2 u3 u4 ∧ (w'.frozen? ⟨W.heap.size, 0, none⟩ = false ∧ w'.frozen? ⟨W.heap.size, 1, none⟩ = false ∧ w'.frozen? ⟨W.heap.size, 2, none⟩ = false ∧ w'.frozen? ⟨W.heap.size, 3, none⟩ = false ∧ w'.frozen? ⟨W.heap.size, 4, none⟩ = false) := by
  have hf := (bcell hb).2
  refine ⟨(Five.new W T u0 u1 u2 u3 u4).below hb, ?_, ?_, ?_, ?_, ?_⟩ <;> rw [hf _ _ (by simp)] <;> simp
section
variable {w : World} {B : Nat} {u0 u1 u2 u3 u4 : Value}
theorem addr_ne {B o o' : Nat} (h : o ≠ o') : (⟨B, o, none⟩ : Addr) ≠ ⟨B, o', none⟩ := by
  intro e
  injection e with _ e
  exact h e
theorem Five.s0 (h : Five w B u0 u1 u2 u3 u4) (v : Value) : Five (w.setCell ⟨B, 0, none⟩ v) B v u1 u2 u3 u4 :=
  ⟨World.cell?_setCell_same _ _ _ h.1, (World.cell?_setCell_other _ _ _ _ (addr_ne (by decide))).trans h.2.1, (World.cell?_setCell_other _ _ _ _ (addr_ne (by decide))).trans h.2.2.1, (World.cell?_setCell_other _ _ _ _ (addr_ne (by decide))).trans h.2.2.2.1, (World.cell?_setCell_other _ _ _ _ (addr_ne (by decide))).trans h.2.2.2.2.1, by rw [World.size_setCell]; exact h.2.2.2.2.2⟩
theorem Five.s1 (h : Five w B u0 u1 u2 u3 u4) (v : Value) : Five (w.setCell ⟨B, 1, none⟩ v) B u0 v u2 u3 u4 :=
  ⟨(World.cell?_setCell_other _ _ _ _ (addr_ne (by decide))).trans h.1, World.cell?_setCell_same _ _ _ h.2.1, (World.cell?_setCell_other _ _ _ _ (addr_ne (by decide))).trans h.2.2.1, (World.cell?_setCell_other _ _ _ _ (addr_ne (by decide))).trans h.2.2.2.1, (World.cell?_setCell_other _ _ _ _ (addr_ne (by decide))).trans h.2.2.2.2.1, by rw [World.size_setCell]; exact h.2.2.2.2.2⟩
theorem Five.s2 (h : Five w B u0 u1 u2 u3 u4) (v : Value) : Five (w.setCell ⟨B, 2, none⟩ v) B u0 u1 v u3 u4 :=
  ⟨(World.cell?_setCell_other _ _ _ _ (addr_ne (by decide))).trans h.1, (World.cell?_setCell_other _ _ _ _ (addr_ne (by decide))).trans h.2.1, World.cell?_setCell_same _ _ _ h.2.2.1, (World.cell?_setCell_other _ _ _ _ (addr_ne (by decide))).trans h.2.2.2.1, (World.cell?_setCell_other _ _ _ _ (addr_ne (by decide))).trans h.2.2.2.2.1, by rw [World.size_setCell]; exact h.2.2.2.2.2⟩
theorem Five.s3 (h : Five w B u0 u1 u2 u3 u4) (v : Value) : Five (w.setCell ⟨B, 3, none⟩ v) B u0 u1 u2 v u4 :=
  ⟨(World.cell?_setCell_other _ _ _ _ (addr_ne (by decide))).trans h.1, (World.cell?_setCell_other _ _ _ _ (addr_ne (by decide))).trans h.2.1, (World.cell?_setCell_other _ _ _ _ (addr_ne (by decide))).trans h.2.2.1, World.cell?_setCell_same _ _ _ h.2.2.2.1, (World.cell?_setCell_other _ _ _ _ (addr_ne (by decide))).trans h.2.2.2.2.1, by rw [World.size_setCell]; exact h.2.2.2.2.2⟩
theorem Five.s4 (h : Five w B u0 u1 u2 u3 u4) (v : Value) : Five (w.setCell ⟨B, 4, none⟩ v) B u0 u1 u2 u3 v :=
  ⟨(World.cell?_setCell_other _ _ _ _ (addr_ne (by decide))).trans h.1, (World.cell?_setCell_other _ _ _ _ (addr_ne (by decide))).trans h.2.1, (World.cell?_setCell_other _ _ _ _ (addr_ne (by decide))).trans h.2.2.1, (World.cell?_setCell_other _ _ _ _ (addr_ne (by decide))).trans h.2.2.2.1, World.cell?_setCell_same _ _ _ h.2.2.2.2.1, by rw [World.size_setCell]; exact h.2.2.2.2.2⟩
theorem Five.other {B' o : Nat} {v : Value} (h : Five w B u0 u1 u2 u3 u4) (hne : B' ≠ B) : Five (w.setCell ⟨B', o, none⟩ v) B u0 u1 u2 u3 u4 := by
  have k : ∀ o', (⟨B', o, none⟩ : Addr) ≠ ⟨B, o', none⟩ := fun o' e => by injection e with e _; exact hne e
  obtain ⟨h0, h1, h2, h3, h4, h5⟩ := h
  exact ⟨(World.cell?_setCell_other _ _ _ _ (k 0)).trans h0, (World.cell?_setCell_other _ _ _ _ (k 1)).trans h1, (World.cell?_setCell_other _ _ _ _ (k 2)).trans h2, (World.cell?_setCell_other _ _ _ _ (k 3)).trans h3, (World.cell?_setCell_other _ _ _ _ (k 4)).trans h4, by rw [World.size_setCell]; exact h5⟩
/-- A block of five cells that may be written. -/
def Free5 (w : World) (B : Nat) : Prop := w.frozen? ⟨B, 0, none⟩ = false ∧ w.frozen? ⟨B, 1, none⟩ = false ∧ w.frozen? ⟨B, 2, none⟩ = false ∧ w.frozen? ⟨B, 3, none⟩ = false ∧ w.frozen? ⟨B, 4, none⟩ = false
theorem Free5.set {a : Addr} {v : Value} (h : Free5 w B) : Free5 (w.setCell a v) B := by
  unfold Free5 at h ⊢
  simpa using h
theorem set5 (h : Five w B u0 u1 u2 u3 u4) (v0 v1 v2 v3 v4 : Value) : Five (((((w.setCell ⟨B, 0, none⟩ v0).setCell ⟨B, 1, none⟩ v1).setCell ⟨B, 2, none⟩ v2).setCell ⟨B, 3, none⟩ v3).setCell ⟨B, 4, none⟩ v4) B v0 v1 v2 v3 v4 :=
  ((((h.s0 v0).s1 v1).s2 v2).s3 v3).s4 v4
end
theorem below_at {w w' : World} {B b o : Nat} {u : Value} (h : Below B w w') (hb : B ≤ b) : Below B w (w'.setCell ⟨b, o, none⟩ u) := h.setCell (p := ⟨b, o, none⟩) hb u
theorem need_one {u : Tk} {l p : List UInt8} (hu : u.ok = true) (hl : l = needL u.low u.high u.crit) (h1 : (cutL 47 l).length = 1) (hp : (cutL 47 l)[0]? = some p) : u.crit = false ∧ p = dec u.low ∧ u.low = u.high := by
  rw [hl, cut_need hu] at h1 hp
  cases hc : u.crit
  · rw [hc, if_neg (by simp)] at hp
    simp at hp
    obtain ⟨_, _, _, _, _, h6⟩ := tvB_true hu
    exact ⟨rfl, hp.symm, by rcases h6 with h6 | h6; · rw [hc] at h6; cases h6
                            · exact h6⟩
  · rw [hc, if_pos rfl] at h1
    simp at h1
theorem need_two {u : Tk} {l p p' : List UInt8} (hu : u.ok = true) (hl : l = needL u.low u.high u.crit) (h1 : (cutL 47 l).length ≠ 1) (hp : (cutL 47 l)[0]? = some p) (hp' : (cutL 47 l)[1]? = some p') : u.crit = true ∧ p = dec u.low ∧ p' = dec u.high ∧ (cutL 47 l).length = 2 := by
  rw [hl, cut_need hu] at h1 hp hp' ⊢
  cases hc : u.crit
  · rw [hc, if_neg (by simp)] at h1
    simp at h1
  · rw [hc, if_pos rfl] at hp hp'
    simp at hp hp'
    exact ⟨rfl, hp.symm, hp'.symm, by rw [if_pos rfl]; rfl⟩
set_option maxHeartbeats 4000000 in
theorem c_l1Need (s : ByteArray) (w : World) (hs : s.size ≤ 1048576) : Calls Tryd.prog 39 #[.string s] w (NeedC w s.data.toList) := by
  have HZ := Lib.hid hs
  go_enter Tryd.func39, Tryd.ntmps39
  go_wp2_with fail
  refine (c_l11Cut s 47 47 _ rfl hs).mono ?_
  rintro r w1 ⟨A1, n1, c1, rfl, hb1, ho1, hn1⟩
  have HB1 := Lib.hid (below2 (below_alloc (w := w) (.cells #[.int .i64 0, .int .i64 0, .int .i64 0, .int .i64 0, .bool false] 24)) hb1)
  have HF1 := Lib.hid ((Five.new w 24 (.int .i64 0) (.int .i64 0) (.int .i64 0) (.int .i64 0) (.bool false)).below hb1)
  have hlen : (cutL 47 s.data.toList).length = n1 := by have := ho1.1; rw [List.length_map] at this; exact this
  have hn0 : 1 ≤ n1 := by rw [← hlen]; exact cutL_len
  obtain ⟨p0, hp0⟩ : ∃ p, (cutL 47 s.data.toList)[0]? = some p := ⟨_, List.getElem?_eq_getElem (by omega)⟩
  have hz0 : (bs p0).size ≤ 1048576 := by
    rw [bs_size]
    have h1 := cutL_sub (List.mem_of_getElem? hp0)
    have h2 : s.data.toList.length = s.size := by rw [Array.length_toList]; rfl
    omega
  rcases ho1.form' with ⟨_, h0, _⟩ | ⟨g, rfl, hg, hgB, hnc⟩
  · omega
  have y0 := ho1.at_ (k := 0) (x := bs p0) (by rw [List.getElem?_map, hp0]; rfl)
  have HO1 := Lib.hid ho1
  have HP0 := Lib.hid hp0
  have HLen := Lib.hid hlen
  have hn0' : (0 : Int) < (n1 : Int) := by omega
  have hb1' := hb1
  clear hb1 ho1 hlen hp0 hs
  go_wp2_with fail
  refine (c_l11Num (bs p0) _ (by omega)).mono ?_
  rintro r w2 ⟨v, b, rfl, hb2, hnum⟩
  have HN := Lib.hid hnum
  have HB12 := Lib.hid hb2
  have HF2 := Lib.hid (HF1.out.below hb2)
  have HO2 := Lib.hid (HO1.out.below hb2)
  have hbw := below2 hb1' hb2
  obtain ⟨K5, q0, q1, q2, q3, q4⟩ := made5 hbw
  have HK5 := Lib.hid K5
  obtain ⟨k0, k1, k2, k3, k4, k5⟩ := K5
  have HBW := Lib.hid (below2 HB1.out hb2)
  have HBR := Lib.hid hbw
  clear hnum hb2 y0 HF1 HO1 hb1' hbw
  clear hgB hnc
  by_cases h1 : n1 = 1
  · subst h1
    go_wp2
    obtain ⟨r0, r1, r2, r3, r4, _⟩ := (set5 HK5.out (.int .i64 v) (.int .i64 v) (.int .i64 0) (.int .i64 0) (.bool false)).below (below_alloc (.cells #[.int .i64 v, .int .i64 v, .int .i64 0, .int .i64 0, .bool false] 24))
    refine bodyPost_ret (v := .tuple #[.agg #[.int .i64 v, .int .i64 v, .int .i64 0, .int .i64 0, .bool false], .bool b]) (by simp [results, Tryd.results39, go_sem, r0, r1, r2, r3, r4]) rfl ⟨v, v, false, b, rfl, ?_, fun u hu hl => ?_⟩
    · have hbw := HBW.out
      go_grown
    · obtain ⟨e1, e2, e3⟩ := need_one hu hl HLen.out HP0.out
      obtain ⟨⟨a0, a1⟩, _⟩ := ok_bds hu
      obtain ⟨f1, f2⟩ := HN.out u.low a0 a1 (by rw [e2])
      exact ⟨f1, by rw [f1, e3], e1.symm, f2⟩
  · have hx1 : ((n1 : Int) == 1) = false := by rw [beq_eq_false_iff_ne]; omega
    have hx2 : (1 : Int) < (n1 : Int) := by omega
    obtain ⟨p1, hp1⟩ : ∃ p, (cutL 47 s.data.toList)[1]? = some p := ⟨_, List.getElem?_eq_getElem (by rw [HLen.out]; omega)⟩
    have hz1 : (bs p1).size ≤ 1048576 := by
      rw [bs_size]
      have h1 := cutL_sub (List.mem_of_getElem? hp1)
      have h2 : s.data.toList.length = s.size := by rw [Array.length_toList]; rfl
      have := HZ.out
      omega
    have y1 := HO2.out.at_ (k := 1) (x := bs p1) (by rw [List.getElem?_map, hp1]; rfl)
    have HP1 := Lib.hid hp1
    have hgw : g < w2.heap.size := Nat.lt_of_lt_of_le hg HB12.out.size
    have HX := Lib.hid h1
    clear hp1 h1 k0 k1 k2 k3 k4 k5 q0 q1 q2 q3 q4
    go_wp2_with fail
    refine (c_l11Num (bs p1) _ (by omega)).mono ?_
    rintro r w3 ⟨v', b', rfl, hb3, hnum'⟩
    have HN' := Lib.hid hnum'
    obtain ⟨⟨t0, t1, t2, t3, t4, t5⟩, z0, z1, z2, z3, z4⟩ := made5 hb3
    obtain ⟨⟨k0, k1, k2, k3, k4, k5⟩, q0, q1, q2, q3, q4⟩ := made5 (below2 HBR.out (below2 (below_alloc _) hb3))
    have HBW3 := Lib.hid (below2 HBW.out (below2 (below_alloc _) hb3))
    have hne1 : ¬ w.heap.size = w2.heap.size := by have := HK5.out.2.2.2.2.2; omega
    have hne2 : ¬ w2.heap.size = w.heap.size := by omega
    clear hnum' hb3 y1 hgw hg hz0 hz1 hn1 hn0 hn0' hx2
    have HLE := Lib.hid (show w.heap.size ≤ w2.heap.size from HBW.out.size)
    generalize hG : w.heap.size = G at k0 k1 k2 k3 k4 k5 q0 q1 q2 q3 q4 hne1 hne2 ⊢
    have HLG := Lib.hid (Nat.le_of_eq hG)
    clear hG
    generalize w2.heap.size = B2 at t0 t1 t2 t3 t4 t5 z0 z1 z2 z3 z4 hne1 hne2 HLE ⊢
    have HT5 := Lib.hid (show Five w3 B2 (.int .i64 v) (.int .i64 v) (.int .i64 0) (.int .i64 0) (.bool false) from ⟨t0, t1, t2, t3, t4, t5⟩)
    have HG5 := Lib.hid (show Five w3 G (.int .i64 0) (.int .i64 0) (.int .i64 0) (.int .i64 0) (.bool false) from ⟨k0, k1, k2, k3, k4, k5⟩)
    have HGf := Lib.hid (show Free5 w3 G from ⟨q0, q1, q2, q3, q4⟩)
    have HNE := Lib.hid hne2
    go_upto_region 9 with (fail)
    have HT6 := Lib.hid ((HT5.out.s1 (.int .i64 v')).s4 (.bool true))
    have HG6 := Lib.hid ((HG5.out.other (o := 1) (v := .int .i64 v') HNE.out).other (o := 4) (v := .bool true) HNE.out)
    have HGf6 := Lib.hid ((HGf.out.set (a := ⟨B2, 1, none⟩) (v := .int .i64 v')).set (a := ⟨B2, 4, none⟩) (v := .bool true))
    have HB6 := Lib.hid (below_at (below_at HBW3.out HLE.out (o := 1) (u := .int .i64 v')) HLE.out (o := 4) (u := .bool true))
    clear t0 t1 t2 t3 t4 t5 z0 z1 z2 z3 z4 k0 k1 k2 k3 k4 k5 q0 q1 q2 q3 q4 HT5 HG5 HGf HBW3
    generalize (w3.setCell ⟨B2, 1, none⟩ (.int .i64 v')).setCell ⟨B2, 4, none⟩ (.bool true) = w4 at *
    obtain ⟨t0, t1, t2, t3, t4, t5⟩ := HT6.out
    obtain ⟨k0, k1, k2, k3, k4, k5⟩ := HG6.out
    obtain ⟨q0, q1, q2, q3, q4⟩ := HGf6.out
    have ways : (b = false) ∨ (b = true ∧ b' = false) ∨ (b = true ∧ b' = true ∧ ((n1 : Int) == 2) = false) ∨ (b = true ∧ b' = true ∧ ((n1 : Int) == 2) = true) := by
      cases b
      · exact .inl rfl
      · cases b'
        · exact .inr (.inl ⟨rfl, rfl⟩)
        · cases ((n1 : Int) == 2)
          · exact .inr (.inr (.inl ⟨rfl, rfl, rfl⟩))
          · exact .inr (.inr (.inr ⟨rfl, rfl, rfl⟩))
    have fin : ∀ ok : Bool, (b = true → b' = true → ((n1 : Int) == 2) = true → ok = true) → NeedC w s.data.toList (.returned (.tuple #[.agg #[.int .i64 v, .int .i64 v', .int .i64 0, .int .i64 0, .bool true], .bool ok])) (((((w4.setCell ⟨G, 0, none⟩ (.int .i64 v)).setCell ⟨G, 1, none⟩ (.int .i64 v')).setCell ⟨G, 2, none⟩ (.int .i64 0)).setCell ⟨G, 3, none⟩ (.int .i64 0)).setCell ⟨G, 4, none⟩ (.bool true)) := fun ok hok => by
      have hle : w.heap.size ≤ G := HLG.out
      refine ⟨v, v', true, ok, rfl, below_at (below_at (below_at (below_at (below_at HB6.out hle) hle) hle) hle) hle, fun u hu hl => ?_⟩
      obtain ⟨e1, e2, e3, e4⟩ := need_two hu hl (by rw [HLen.out]; exact HX.out) HP0.out HP1.out
      obtain ⟨⟨a0, a1⟩, ⟨b0, b1⟩, _⟩ := ok_bds hu
      obtain ⟨f1, f2⟩ := HN.out u.low a0 a1 (by rw [e2])
      obtain ⟨g1, g2⟩ := HN'.out u.high b0 b1 (by rw [e3])
      exact ⟨f1, g1, e1.symm, hok f2 g2 (by rw [beq_iff_eq]; have := HLen.out; omega)⟩
    have FIN := Lib.hid fin
    have HS5 := Lib.hid (set5 HG6.out (.int .i64 v) (.int .i64 v') (.int .i64 0) (.int .i64 0) (.bool true))
    clear fin
    rcases ways with rfl | ⟨rfl, rfl⟩ | ⟨rfl, rfl, h2⟩ | ⟨rfl, rfl, h2⟩
    · go_wp2
      obtain ⟨r0, r1, r2, r3, r4, _⟩ := HS5.out
      exact bodyPost_ret (v := .tuple #[.agg #[.int .i64 v, .int .i64 v', .int .i64 0, .int .i64 0, .bool true], .bool false]) (by simp [results, Tryd.results39, go_sem, r0, r1, r2, r3, r4]) rfl (FIN.out false fun h => by cases h)
    · go_wp2
      obtain ⟨r0, r1, r2, r3, r4, _⟩ := HS5.out
      exact bodyPost_ret (v := .tuple #[.agg #[.int .i64 v, .int .i64 v', .int .i64 0, .int .i64 0, .bool true], .bool false]) (by simp [results, Tryd.results39, go_sem, r0, r1, r2, r3, r4]) rfl (FIN.out false fun _ h => by cases h)
    · have HH2 := Lib.hid h2
      go_wp2
      obtain ⟨r0, r1, r2, r3, r4, _⟩ := HS5.out
      exact bodyPost_ret (v := .tuple #[.agg #[.int .i64 v, .int .i64 v', .int .i64 0, .int .i64 0, .bool true], .bool false]) (by simp [results, Tryd.results39, go_sem, r0, r1, r2, r3, r4]) rfl (FIN.out false fun _ _ h => by rw [HH2.out] at h; cases h)
    · go_wp2
      obtain ⟨r0, r1, r2, r3, r4, _⟩ := HS5.out
      exact bodyPost_ret (v := .tuple #[.agg #[.int .i64 v, .int .i64 v', .int .i64 0, .int .i64 0, .bool true], .bool true]) (by simp [results, Tryd.results39, go_sem, r0, r1, r2, r3, r4]) rfl (FIN.out true fun _ _ _ => rfl)
end Go.Proofs.YtncpnjnmljobgaaDoor
