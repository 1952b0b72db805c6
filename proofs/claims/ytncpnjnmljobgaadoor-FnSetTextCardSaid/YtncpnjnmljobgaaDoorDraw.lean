/-
  Contracts of the drawing functions: what is drawn lies in its range; of old memory only the source's counter turns.
-/
import Derived.Test.YtncpnjnmljobgaaDoorRows
import Derived.Test.YtncpnjnmljobgaaDoorOwn
import Derived.IntWalk
namespace Go.Proofs.YtncpnjnmljobgaaDoor
set_option maxRecDepth 100000
open Go.RowKit
/-- Block g is a source over the bytes A, n, whose counter is p. -/
def Rd (w : World) (g : Nat) (A : Option Addr) (n c : Nat) (p : Int) : Prop :=
  w.cell? ⟨g, 0, none⟩ = some (.slice A n c) ∧ w.cell? ⟨g, 1, none⟩ = some (.int .i64 p) ∧ w.frozen? ⟨g, 1, none⟩ = false ∧
  ∀ k : Nat, k < n → ∃ b o, ∃ x : Int, A = some ⟨b, o, none⟩ ∧ b < g ∧ w.cell? ⟨b, o + k, none⟩ = some (.int .u8 x) ∧ 0 ≤ x ∧ x ≤ 255
theorem Rd.lt {w : World} {g : Nat} {A : Option Addr} {n c : Nat} {p : Int} (h : Rd w g A n c p) : g < w.heap.size := by
  have h := h.1
  rcases Nat.lt_or_ge g w.heap.size with hlt | hge
  · exact hlt
  · simp [World.cell?, Array.getElem?_eq_none hge] at h
theorem Rd.below {w w' : World} {g : Nat} {A : Option Addr} {n c : Nat} {p : Int} (h : Rd w g A n c p) (hb : Below w.heap.size w w') : Rd w' g A n c p := by
  have hl := h.lt
  refine ⟨((bcell hb).1 g 0 hl).trans h.1, ((bcell hb).1 g 1 hl).trans h.2.1, ((bcell hb).2 g 1 hl).trans h.2.2.1, fun k hk => ?_⟩
  obtain ⟨b, o, x, e, hbg, hc, h0, h1⟩ := h.2.2.2 k hk
  exact ⟨b, o, x, e, hbg, ((bcell hb).1 b (o + k) (by omega)).trans hc, h0, h1⟩
theorem Rd.step {w : World} {g : Nat} {A : Option Addr} {n c : Nat} {p : Int} (h : Rd w g A n c p) (q : Int) : Rd (w.setCell ⟨g, 1, none⟩ (.int .i64 q)) g A n c q := by
  refine ⟨?_, ?_, ?_, fun k hk => ?_⟩
  · exact (World.cell?_setCell_other w ⟨g, 1, none⟩ ⟨g, 0, none⟩ _ (by intro e; injection e; omega)).trans h.1
  · exact World.cell?_setCell_same _ _ _ h.2.1
  · simp [h.2.2.1]
  · obtain ⟨b, o, x, e, hbg, hc, h0, h1⟩ := h.2.2.2 k hk
    refine ⟨b, o, x, e, hbg, ?_, h0, h1⟩
    rw [World.cell?_setCell_other _ _ _ _ (by intro e; injection e; omega)]
    exact hc
theorem Rd.drewN {w : World} {g : Nat} {A : Option Addr} {n c : Nat} {p : Int} (h : Rd w g A n c p) (k : Nat) : Rd (w.drewN k) g A n c p := h
/-- What a call leaves that only counts in block g: an int v of which P holds. -/
def Drawn (w : World) (g : Nat) (A : Option Addr) (n c : Nat) (p q : Int) (P : Int → Prop) (r : Ending) (w' : World) : Prop :=
  ∃ v : Int, P v ∧ r = .returned (.int .i64 v) ∧ w.grownBy w' (some g) ∧ ∃ p' : Int, p ≤ p' ∧ p' ≤ q ∧ Rd w' g A n c p'
theorem grown_refl {w : World} {g : Nat} : w.grownBy w (some g) := ⟨rfl, rfl, rfl, Nat.le_refl _, fun _ _ _ => rfl⟩
theorem grown_set {w : World} {g j : Nat} (u : Value) : w.grownBy (w.setCell ⟨g, j, none⟩ u) (some g) :=
  ⟨rfl, rfl, rfl, by simp [World.setCell], fun i _ hne => Below.heap_setCell w ⟨g, j, none⟩ u i (fun e => hne (by rw [e]))⟩
theorem grown_drewN {w w' : World} {r : Option Nat} (h : w.grownBy w' r) (n : Nat) : w.grownBy (w'.drewN n) r := ⟨h.os, h.tape, h.output, h.size, h.block⟩
theorem grown_trans {a b c : World} {g : Nat} (h : a.grownBy b (some g)) (k : b.grownBy c (some g)) : a.grownBy c (some g) :=
  ⟨k.os.trans h.os, k.tape.trans h.tape, k.output.trans h.output, Nat.le_trans h.size k.size, fun i hi hn => (k.block i (Nat.lt_of_lt_of_le hi h.size) hn).trans (h.block i hi hn)⟩
theorem grown_below {a b c : World} {g : Nat} (h : a.grownBy b (some g)) (k : Below b.heap.size b c) : a.grownBy c (some g) := grown_trans h (below_grown k _)
theorem ofInt_i64 (a : Nat) (ha : a < 9223372036854775808) : (BitVec.ofInt 64 (a : Int)).toNat = a := by
  rw [BitVec.ofInt_natCast, BitVec.toNat_ofNat]; exact Nat.mod_eq_of_lt (by omega)
theorem i64_xor_nat (a b : Nat) (ha : a < 9223372036854775808) (hb : b < 9223372036854775808) : bits .xor .i64 (a : Int) (b : Int) = ((a ^^^ b : Nat) : Int) := by
  have hx : a ^^^ b < 2 ^ 63 := Nat.xor_lt_two_pow (by omega) (by omega)
  show IntKind.i64.wrap ((BitVec.ofInt 64 (a : Int) ^^^ BitVec.ofInt 64 (b : Int)).toNat : Int) = _
  rw [BitVec.toNat_xor, ofInt_i64 a ha, ofInt_i64 b hb, IntKind.wrap_i64]
  omega
theorem xor_up {X : Int} (h0 : 0 ≤ X) (h1 : X ≤ 100000000) : ∃ z : Int, 0 ≤ z ∧ bits .xor .i64 X (X / 64) = z := by
  obtain ⟨a, rfl⟩ := Int.eq_ofNat_of_zero_le h0
  refine ⟨_, ?_, i64_xor_nat a (a / 64) (by omega) (by omega)⟩
  omega
set_option maxHeartbeats 1000000 in
theorem c_pick (g : Nat) (A : Option Addr) (n c : Nat) (p m : Int) (w : World) (h : Rd w g A n c p) (hp : 0 ≤ p) (hp' : p ≤ 1000000) (hn : n ≤ 2000) (hm : m ≤ 1000000) :
    Calls Tryd.prog 36 #[.pointer (some ⟨g, 0, none⟩), .int .i64 m] w (Drawn w g A n c p (p + 1) (fun v => 0 ≤ v ∧ (v < m ∨ v = 0))) := by
  have H := Lib.hid h
  obtain ⟨h0, h1, h2, hk⟩ := h
  clear hk
  by_cases hm1 : m < 1
  · go_enter Tryd.func36, Tryd.ntmps36
    go_wp2
    go_ret
    exact ⟨0, ⟨by omega, .inr rfl⟩, rfl, grown_set _, p + 1, by omega, by omega, H.out.step _⟩
  · by_cases hn0 : n = 0
    · subst hn0
      go_enter Tryd.func36, Tryd.ntmps36
      go_wp2
      go_ret
      exact ⟨0, ⟨by omega, .inr rfl⟩, rfl, grown_set _, p + 1, by omega, by omega, H.out.step _⟩
    · have hne : ((n : Int) == 0) = false := by rw [beq_eq_false_iff_ne]; omega
      have hmm : ¬ m = 0 := by omega
      by_cases hkn : p < n
      · obtain ⟨b, o, x, rfl, hbg, hc, hx0, hx1⟩ := H.out.2.2.2 p.toNat (by omega)
        have hr0 : 0 ≤ x % m := Int.emod_nonneg _ hmm
        have hr1 : x % m < m := Int.emod_lt_of_pos _ (by omega)
        go_enter Tryd.func36, Tryd.ntmps36
        go_wp2
        go_ret
        exact ⟨x % m, ⟨hr0, .inl hr1⟩, rfl, grown_set _, p + 1, by omega, by omega, H.out.step _⟩
      · obtain ⟨b, o, x, hA, hbg, hc, hx0, hx1⟩ := H.out.2.2.2 (p % n).toNat (by have := Int.emod_nonneg p (show (n : Int) ≠ 0 by omega); have := Int.emod_lt_of_pos p (show 0 < (n : Int) by omega); omega)
        subst hA
        obtain ⟨b', o', y, hA, hbg', hd, hy0, hy1⟩ := H.out.2.2.2 ((p * 7 + 3) % n).toNat (by have := Int.emod_nonneg (p * 7 + 3) (show (n : Int) ≠ 0 by omega); have := Int.emod_lt_of_pos (p * 7 + 3) (show 0 < (n : Int) by omega); omega)
        obtain ⟨rfl, rfl⟩ : b = b' ∧ o = o' := by simpa using hA
        clear hA hbg'
        have hn0' : ¬ (n : Int) = 0 := by omega
        have q1 : p.tmod (n : Int) = p % (n : Int) := Int.tmod_eq_emod_of_nonneg hp
        have q2 : (p * 7 + 3).tmod (n : Int) = (p * 7 + 3) % (n : Int) := Int.tmod_eq_emod_of_nonneg (by omega)
        have q3 : p.tdiv (n : Int) = p / (n : Int) := Int.tdiv_eq_ediv_of_nonneg hp
        have a1 : 0 ≤ p % (n : Int) := Int.emod_nonneg _ (by omega)
        have a2 : p % (n : Int) < n := Int.emod_lt_of_pos _ (by omega)
        have a3 : 0 ≤ (p * 7 + 3) % (n : Int) := Int.emod_nonneg _ (by omega)
        have a4 : (p * 7 + 3) % (n : Int) < n := Int.emod_lt_of_pos _ (by omega)
        have a5 : 0 ≤ p / (n : Int) := Int.ediv_nonneg hp (by omega)
        have a6 : p / (n : Int) ≤ p := Int.ediv_le_self _ hp
        have w1 : IntKind.i64.wrap (p % (n : Int)) = p % (n : Int) := IntWalk.i64_in _ (by omega)
        have w2 : IntKind.i64.wrap ((p * 7 + 3) % (n : Int)) = (p * 7 + 3) % (n : Int) := IntWalk.i64_in _ (by omega)
        have w3 : IntKind.i64.wrap (p / (n : Int)) = p / (n : Int) := IntWalk.i64_in _ (by omega)
        have w4 : IntKind.i64.wrap (x * 131) = x * 131 := IntWalk.i64_in _ (by omega)
        have w5 : IntKind.i64.wrap (p * 7) = p * 7 := IntWalk.i64_in _ (by omega)
        have w6 : IntKind.i64.wrap (p * 7 + 3) = p * 7 + 3 := IntWalk.i64_in _ (by omega)
        have w7 : IntKind.i64.wrap (y * 1117) = y * 1117 := IntWalk.i64_in _ (by omega)
        have w8 : IntKind.i64.wrap (x * 131 + y * 1117) = x * 131 + y * 1117 := IntWalk.i64_in _ (by omega)
        have w9 : IntKind.i64.wrap (p * 29) = p * 29 := IntWalk.i64_in _ (by omega)
        have w10 : IntKind.i64.wrap (x * 131 + y * 1117 + p * 29) = x * 131 + y * 1117 + p * 29 := IntWalk.i64_in _ (by omega)
        have w11 : IntKind.i64.wrap (p / (n : Int) * 53) = p / (n : Int) * 53 := IntWalk.i64_in _ (by omega)
        have w12 : IntKind.i64.wrap (x * 131 + y * 1117 + p * 29 + p / (n : Int) * 53) = x * 131 + y * 1117 + p * 29 + p / (n : Int) * 53 := IntWalk.i64_in _ (by omega)
        have w13 : IntKind.i64.wrap x = x := IntWalk.i64_in _ (by omega)
        have w14 : IntKind.i64.wrap y = y := IntWalk.i64_in _ (by omega)
        go_enter Tryd.func36, Tryd.ntmps36
        go_wp2
        go_quiet (fail)
        have hX0 : 0 ≤ x * 131 + y * 1117 + p * 29 + p / (n : Int) * 53 := by omega
        have hX1 : x * 131 + y * 1117 + p * 29 + p / (n : Int) * 53 ≤ 100000000 := by omega
        clear q1 q2 q3 a1 a2 a3 a4 a5 a6 w1 w2 w3 w4 w5 w6 w7 w8 w9 w10 w11 w12 w13 w14 hc hd
        generalize x * 131 + y * 1117 + p * 29 + p / (n : Int) * 53 = X at *
        obtain ⟨z, hz0, hz⟩ := xor_up hX0 hX1
        have hr0 : 0 ≤ z % m := Int.emod_nonneg _ hmm
        have hr1 : z % m < m := Int.emod_lt_of_pos _ (by omega)
        go_wp2
        go_ret
        exact ⟨z % m, ⟨hr0, .inl hr1⟩, rfl, grown_drewN (grown_set _) _, p + 1, by omega, by omega, (H.out.step _).drewN _⟩
/-- Block b, not the source, holds numbers of which P holds. -/
def Nums (w : World) (b L : Nat) (P : Int → Prop) : Prop := ∀ i : Nat, i < L → ∃ v : Int, P v ∧ w.cell? ⟨b, i, none⟩ = some (.int .i64 v)
theorem nums_lit (w : World) (T : TypeId) (xs : List Int) (P : Int → Prop) (h : ∀ x ∈ xs, P x) : Nums (w.alloc (.cells (xs.map (Value.int .i64)).toArray T)) w.heap.size xs.length P := by
  intro i hi
  refine ⟨xs[i], h _ (List.getElem_mem hi), ?_⟩
  rw [World.cell?_alloc_new]
  simp [hi]
set_option maxHeartbeats 1000000 in
theorem c_num_at (g b L : Nat) (A : Option Addr) (n c : Nat) (p : Int) (P : Int → Prop) (w : World) (h : Rd w g A n c p) (hp : 0 ≤ p) (hp' : p ≤ 1000000) (hn : n ≤ 2000) (hL : 0 < L) (hL' : L ≤ 1000) (hbg : b ≠ g) (hP : Nums w b L P) :
    Calls Tryd.prog 50 #[.pointer (some ⟨g, 0, none⟩), .slice (some ⟨b, 0, none⟩) L L] w (Drawn w g A n c p (p + 1) P) := by
  have H := Lib.hid hP
  clear hP
  go_enter Tryd.func50, Tryd.ntmps50
  go_wp2_with fail
  refine (c_pick g A n c p L w h hp hp' hn (by omega)).mono ?_
  rintro r w1 ⟨v, ⟨hv0, hv1⟩, rfl, hg, p', hp1, hp2, hr⟩
  obtain ⟨i, rfl⟩ := Int.eq_ofNat_of_zero_le hv0
  have hi : i < L := by omega
  obtain ⟨u, hu, hcell⟩ := H.out i hi
  have hc1 : w1.cell? ⟨b, i, none⟩ = some (.int .i64 u) := hg.cell hcell (by simp; exact hbg)
  have HG := Lib.hid hg
  have HR := Lib.hid hr
  clear hg hr h hcell hv1
  go_wp2
  go_ret
  exact ⟨u, hu, rfl, HG.out, p', hp1, hp2, HR.out⟩
theorem c_num (xs : List Int) (P : Int → Prop) (hx : ∀ x ∈ xs, P x) (g b : Nat) (A : Option Addr) (n c : Nat) (p : Int) (T : TypeId) (w : World) (hb : w.heap.size = b) (h : Rd w g A n c p) (hp : 0 ≤ p) (hp' : p ≤ 1000000) (hn : n ≤ 2000) (hL : 0 < xs.length) (hL' : xs.length ≤ 1000) :
    Calls Tryd.prog 50 #[.pointer (some ⟨g, 0, none⟩), .slice (some ⟨b, 0, none⟩) xs.length xs.length] (w.alloc (.cells (xs.map (Value.int .i64)).toArray T)) (Drawn w g A n c p (p + 1) P) := by
  subst hb
  have hg := h.lt
  refine (c_num_at g w.heap.size xs.length A n c p P _ (h.below (below_alloc _)) hp hp' hn hL hL' (by omega) (nums_lit w T xs P hx)).mono ?_
  rintro r w1 ⟨v, hv, rfl, hg1, rest⟩
  exact ⟨v, hv, rfl, grown_trans (below_grown (below_alloc _) _) hg1, rest⟩
/-- What l11Open leaves. -/
def Opened (w : World) (A : Option Addr) (r : Ending) (w' : World) : Prop :=
  ∃ g n c : Nat, r = .returned (.pointer (some ⟨g, 0, none⟩)) ∧ w.heap.size ≤ g ∧ n ≤ 2000 ∧ Below w.heap.size w w' ∧ Rd w' g A n c 0
theorem rd_new {w : World} {A : Option Addr} {n n' c c' : Nat} (T : TypeId) (h : IsBytes w A n c) (hn : n' ≤ n) : Rd (w.alloc (.cells #[.slice A n' c', .int .i64 0] T)) w.heap.size A n' c' 0 := by
  refine ⟨by simp, by simp, by simp, fun k hk => ?_⟩
  obtain ⟨b, o, x, e, hb, hc, h0, h1⟩ := h.2 k (by omega)
  exact ⟨b, o, x, e, hb, ((bcell (below_alloc _)).1 b (o + k) hb).trans hc, h0, h1⟩
set_option maxHeartbeats 400000 in
theorem c_l11Open (A : Option Addr) (n c : Nat) (w : World) (h : IsBytes w A n c) (hn : n ≤ 1048576) :
    Calls Tryd.prog 34 #[.slice A n c] w (Opened w A) := by
  have H := Lib.hid h
  obtain ⟨⟨hc0, hc1⟩, _⟩ := h
  unfold maxLen at hc1
  by_cases h2 : 2000 < n
  · go_enter Tryd.func34, Tryd.ntmps34
    go_wp2
    go_ret
    exact ⟨_, 2000, c, rfl, Nat.le_refl _, Nat.le_refl _, below_alloc _, rd_new _ H.out (by omega)⟩
  · go_enter Tryd.func34, Tryd.ntmps34
    go_wp2
    go_ret
    exact ⟨_, n, c, rfl, Nat.le_refl _, by omega, below_alloc _, rd_new _ H.out (by omega)⟩
end Go.Proofs.YtncpnjnmljobgaaDoor
