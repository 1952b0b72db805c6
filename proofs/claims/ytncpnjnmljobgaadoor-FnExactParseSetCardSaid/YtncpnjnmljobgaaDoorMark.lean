/-
  The laws' own marking of a list of tasks, and the look whether it holds.
-/
import Derived.Test.YtncpnjnmljobgaaDoorList
import Derived.Test.YtncpnjnmljobgaaDoorOwnAdd
namespace Go.Proofs.YtncpnjnmljobgaaDoor
set_option maxRecDepth 100000
open Go.RowKit
/-- The mark that begins with x. -/
def mkT (x : Int) : Tk := ⟨x, x + 1, x + 1 + 1, x + 1 + 1 + 1, (x + 1 + 1 + 1 + 1) % 3 == 0⟩
def mkL (k : Int) (n : Nat) : List Tk := (List.range n).map fun i : Nat => mkT (k + 5 * (i : Int))
theorem mkL_len (k : Int) (n : Nat) : (mkL k n).length = n := by unfold mkL; simp
theorem mkL_at {k : Int} {n j : Nat} (h : j < n) : (mkL k n)[j]? = some (mkT (k + 5 * j)) := by
  unfold mkL
  simp [h]
theorem mkL_succ (k : Int) (j : Nat) : mkL k (j + 1) = mkL k j ++ [mkT (k + 5 * j)] := by
  unfold mkL
  rw [List.range_succ, List.map_append]
  rfl
theorem mk_set {ts : List Tk} {k : Int} {j n : Nat} (hl : ts.length = n) (hj : j < n) : (mkL k j ++ ts.drop j).set j (mkT (k + 5 * j)) = mkL k (j + 1) ++ ts.drop (j + 1) := by
  rw [List.set_append, if_neg (by rw [mkL_len]; omega), mkL_len, Nat.sub_self, mkL_succ, List.append_assoc]
  congr 1
  obtain ⟨t, ht⟩ := at_of (ts := ts) (k := j) (by omega)
  rw [List.drop_eq_getElem_cons (by omega)]
  rfl
theorem mk_at {ts : List Tk} {k : Int} {j n : Nat} (hl : ts.length = n) (hj : j < n) : ∃ t, (mkL k j ++ ts.drop j)[j]? = some t := at_of (by rw [List.length_append, mkL_len, List.length_drop]; omega)
theorem OwnT.kept_ne {w w' : World} {B : Nat} {e : TypeId} {A : Option Addr} {n c : Nat} {ts : List Tk} {row : Option Nat} (h : OwnT w B e A n c ts) (hg : w.grownBy w' row) (hne : ∀ g, (Value.slice A n c).ownBlock = some g → row ≠ some g) : OwnT w' B e A n c ts := by
  refine ⟨h.1, h.2.kept hg ?_⟩
  cases hv : (Value.slice A n c).ownBlock with
  | none => exact .inl rfl
  | some g => exact .inr fun e => hne g hv e.symm
theorem grown_own_refl (w : World) (row : Option Nat) : w.grownBy w row := ⟨rfl, rfl, rfl, Nat.le_refl _, fun _ _ _ => rfl⟩
theorem grown_own_put {w w' : World} {g k : Nat} (h : w.grownBy w' (some g)) (t : Tk) :
    w.grownBy (((((w'.setCell ⟨g, k * 5, none⟩ (.int .i64 t.low)).setCell ⟨g, k * 5 + 1, none⟩ (.int .i64 t.high)).setCell ⟨g, k * 5 + 2, none⟩ (.int .i64 t.due)).setCell ⟨g, k * 5 + 3, none⟩ (.int .i64 t.every)).setCell ⟨g, k * 5 + 4, none⟩ (.bool t.crit)) (some g) :=
  grown_trans (grown_trans (grown_trans (grown_trans (grown_trans h (grown_set _)) (grown_set _)) (grown_set _)) (grown_set _)) (grown_set _)
/-- What marking leaves. -/
def Marked (w : World) (B : Nat) (e : TypeId) (A : Option Addr) (n c : Nat) (k : Int) (r : Ending) (w' : World) : Prop :=
  r = .returned (.int .i64 (k + 5 * n)) ∧ w.grownBy w' (Value.slice A n c).ownBlock ∧ OwnT w' B e A n c (mkL k n)
set_option maxHeartbeats 1000000 in
theorem c_markTaskS (A : Option Addr) (n c B : Nat) (ts : List Tk) (k : Int) (w : World) (h : OwnT w B 24 A n c ts) (hk : 0 ≤ k) (hk' : k ≤ 1000) (hn : n ≤ 1048576) :
    Calls Tryd.prog 19 #[.slice A n c, .int .i64 k] w (Marked w B 24 A n c k) := by
  by_cases hn0 : n = 0
  · subst hn0
    have ht := List.length_eq_zero_iff.1 h.1
    subst ht
    have H := Lib.hid h
    clear h
    go_enter Tryd.func19, Tryd.ntmps19
    go_wp2
    refine wp_loop_rounds 1 ?_
    rw [rounds_succ]
    go_wp2
    go_ret
    exact ⟨ret_int (by simp), grown_own_refl _ _, H.out⟩
  · obtain ⟨g, rfl, hg0, hg1⟩ := h.form (by omega)
    have HL := Lib.hid h.1
    have H := Lib.hid h
    clear h
    go_enter Tryd.func19, Tryd.ntmps19
    go_wp2
    go_loopw [1, 5] (fun u i wr => ∃ (j : Nat) (x : Int), j ≤ n ∧ i = .int .i64 j ∧ u = .int .i64 x ∧ Hid (x = k + 5 * j) ∧ w.grownBy wr (some g) ∧ OwnT wr B 24 (some ⟨g, 0, none⟩) n c (mkL k j ++ ts.drop j)) (fun _ i _ => n - (intOf i).toNat)
    case atStart => exact ⟨0, k, Nat.zero_le _, rfl, rfl, Lib.hid (by simp), grown_own_refl _ _, by simpa [mkL] using H.out⟩
    case round =>
      clear hg1
      obtain ⟨j, x, hj, rfl, rfl, hx, hgr, ho⟩ := hrel
      have x0 : 0 ≤ x := by have := hx.out; omega
      have x1 : x ≤ 100000000 := by have := hx.out; omega
      have HG := Lib.hid hgr
      have HO := Lib.hid ho
      clear hgr ho
      by_cases hlt : j < n
      · obtain ⟨t, ht⟩ := mk_at (k := k) HL.out hlt
        obtain ⟨y0, y1, y2, y3, y4⟩ := HO.out.at_ ht
        have f0 := HO.out.free (j * 5)
        have f1 := HO.out.free (j * 5 + 1)
        have f2 := HO.out.free (j * 5 + 2)
        have f3 := HO.out.free (j * 5 + 3)
        have f4 := HO.out.free (j * 5 + 4)
        clear ht
        go_wp2
        clear y0 y1 y2 y3 y4 f0 f1 f2 f3 f4
        go_roundw
        case rel =>
          refine ⟨j + 1, x + 1 + 1 + 1 + 1 + 1, by omega, by go_num, rfl, Lib.hid (by have := hx.out; omega), grown_own_put HG.out (mkT x), ?_⟩
          rw [← mk_set HL.out hlt, ← hx.out]
          exact HO.out.put hlt (mkT x)
        case measure => simp [intOf]; omega
      · have HJ := Lib.hid (show j = n by omega)
        go_wp2
        go_ret
        refine ⟨ret_int (by rw [hx.out, HJ.out]), HG.out, ?_⟩
        have := HO.out
        rw [HJ.out, List.drop_eq_nil_of_le (by have := HL.out; omega), List.append_nil] at this
        exact this
set_option maxHeartbeats 1000000 in
theorem c_heldTaskS (A : Option Addr) (n c : Nat) (k : Int) (w : World) (h : IsTs w A n (mkL k n)) (hk : 0 ≤ k) (hk' : k ≤ 1000) (hn : n ≤ 1048576) :
    Calls Tryd.prog 20 #[.slice A n c, .int .i64 k] w fun r w' => r = .returned (.int .i64 (k + 5 * n)) ∧ w = w' := by
  have H := Lib.hid h
  clear h
  go_enter Tryd.func20, Tryd.ntmps20
  go_wp2
  go_loop [1, 5] (fun u i => ∃ (j : Nat) (x : Int), j ≤ n ∧ i = .int .i64 j ∧ u = .int .i64 x ∧ Hid (x = k + 5 * j)) (fun _ i => n - (intOf i).toNat)
  case atStart => exact ⟨0, k, Nat.zero_le _, rfl, rfl, Lib.hid (by simp)⟩
  case round =>
    obtain ⟨j, x, hj, rfl, rfl, hx⟩ := hrel
    have x0 : 0 ≤ x := by have := hx.out; omega
    have x1 : x ≤ 100000000 := by have := hx.out; omega
    by_cases hlt : j < n
    · obtain ⟨b, o, rfl, hbb, y0, y1, y2, y3, y4⟩ := H.out.2 j _ (mkL_at hlt)
      rw [← hx.out] at y0 y1 y2 y3 y4
      unfold mkT at y0 y1 y2 y3 y4
      simp only at y0 y1 y2 y3 y4
      go_wp2
      go_round
      case rel => exact ⟨j + 1, x + 1 + 1 + 1 + 1 + 1, by omega, by go_num, rfl, Lib.hid (by have := hx.out; omega)⟩
      case measure => simp [intOf]; omega
    · have HJ := Lib.hid (show j = n by omega)
      go_wp2
      go_ret
      exact ⟨ret_int (by rw [hx.out, HJ.out]), rfl⟩
end Go.Proofs.YtncpnjnmljobgaaDoor
