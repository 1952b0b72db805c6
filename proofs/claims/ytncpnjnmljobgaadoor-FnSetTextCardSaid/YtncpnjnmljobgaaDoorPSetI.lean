/-
  The parsers of sets.
-/
import Derived.Test.YtncpnjnmljobgaaDoorPImplT
import Derived.Test.YtncpnjnmljobgaaDoorMathQ
import Derived.Test.YtncpnjnmljobgaaDoorOwnAdd
import Derived.Test.YtncpnjnmljobgaaDoorLayP
namespace Go.Proofs.YtncpnjnmljobgaaDoor
set_option maxRecDepth 100000
open Go.RowKit
/-- Block g holds the strings xs. -/
def StrB (w : World) (g : Nat) (xs : List ByteArray) : Prop := ∃ cur : Array Value, w.heap[g]? = some (.cells cur 9 (0, 0)) ∧ ∀ (k : Nat) (x : ByteArray), xs[k]? = some x → cur[k]? = some (.string x)
section
variable {w w' : World} {g : Nat} {xs : List ByteArray}
theorem StrB.lt (h : StrB w g xs) : g < w.heap.size := by
  obtain ⟨cur, hc, _⟩ := h
  exact (Array.getElem?_eq_some_iff.1 hc).1
theorem StrB.below (h : StrB w g xs) (hb : Below w.heap.size w w') : StrB w' g xs := by
  have hl := h.lt
  obtain ⟨cur, hc, hx⟩ := h
  exact ⟨cur, (hb.block g hl).trans hc, hx⟩
theorem StrB.at_ (h : StrB w g xs) {k : Nat} {x : ByteArray} (hx : xs[k]? = some x) : w.cell? ⟨g, k, none⟩ = some (.string x) := by
  obtain ⟨cur, hc, hx'⟩ := h
  simp [World.cell?, hc, hx' k x hx]
theorem StrB.grown {B n c : Nat} {A : Option Addr} {ts : List Tk} (h : StrB w g xs) (ho : OwnT w B 24 A n c ts) (hg : w.grownBy w' (Value.slice A n c).ownBlock) : StrB w' g xs := by
  have hl := h.lt
  obtain ⟨cur, hc, hx⟩ := h
  refine ⟨cur, (hg.block g hl fun e => ?_).trans hc, hx⟩
  rcases ho.2.2 with ⟨hv, _⟩ | ⟨g', cap, cur', hv, _, hh, _⟩
  · rw [hv] at e; cases e
  · rw [hv] at e
    injection e with e
    have e' : g = g' := e
    subst e'
    have hq := hc.symm.trans hh
    simp at hq
end
/-- What a parser of sets leaves. -/
def GotPS (w : World) (l : List UInt8) (r : Ending) (w' : World) : Prop :=
  ∃ (A : Option Addr) (n c : Nat) (ts : List Tk) (b : Bool), r = .returned (.tuple #[.slice A n c, .bool b]) ∧ Below w.heap.size w w' ∧ OwnT w' w.heap.size 24 A n c ts ∧ n ≤ 5 ∧ IsPS l ts b
theorem spl_bs (s : ByteArray) : (spl s.data.toList).map bs = Lib.splitB ⟨#[59, 32]⟩ 0 (Lib.countB s ⟨#[59, 32]⟩) s := by
  have hd := Lib.splitB_data ⟨#[59, 32]⟩ 0 (Lib.countB s ⟨#[59, 32]⟩) s
  have e : spl s.data.toList = (Lib.splitB ⟨#[59, 32]⟩ 0 (Lib.countB s ⟨#[59, 32]⟩) s).map (·.data.toList) := hd.symm
  rw [e, List.map_map]
  have hf : (bs ∘ fun x : ByteArray => x.data.toList) = id := by funext x; exact bs_list x
  rw [hf, List.map_id]
theorem c_Split (s : ByteArray) (w : World) (hE : Env w) (hs : s.size ≤ 2097152) : Calls Tryd.prog 41 #[.string s, .string ⟨#[59, 32]⟩] w fun r w' => ∃ g n : Nat, r = .returned (.slice (some ⟨g, 0, none⟩) n n) ∧ Below w.heap.size w w' ∧ StrB w' g ((spl s.data.toList).map bs) ∧ n = (spl s.data.toList).length := by
  obtain ⟨⟨m, hm⟩, _⟩ := hE
  refine (Any.strings_Split L_split (by kernel_rfl) s ⟨#[59, 32]⟩ m w (by omega) hm (by decide)).mono ?_
  rintro r w' ⟨rfl, rfl⟩
  refine ⟨_, _, rfl, below_alloc _, ⟨_, heap_alloc_new w _, ?_⟩, ?_⟩
  · intro k x hx
    rw [spl_bs] at hx
    simp [hx]
  · have h1 := Lib.splitB_all ⟨#[59, 32]⟩ (by decide) 0 _ s rfl
    rw [← spl_bs, List.length_map] at h1
    exact h1.symm
set_option maxHeartbeats 4000000 in
theorem c_impl_ParseSet (s : ByteArray) (w : World) (hE : Env w) (hs : s.size ≤ 1048576) : Calls Tryd.prog 17 #[.string s] w (GotPS w s.data.toList) := by
  have HE := Lib.hid hE
  have HZ := Lib.hid hs
  clear hE
  have HB0 := Lib.hid (below_alloc (w := w) (.cells #[] 24))
  have HO0 := Lib.hid (OwnT.empty (e := 24) w (Nat.le_refl _))
  by_cases h0 : s.toList = []
  · have h1 : s.toList.isEmpty = true := by rw [h0]; rfl
    have HN := Lib.hid (show s.data.toList = [] from (ByteArray.toList_eq s).symm.trans h0)
    clear h0
    go_enter Tryd.func17, Tryd.ntmps17
    go_wp2
    go_ret2
    exact ⟨_, 0, 0, [], true, rfl, HB0.out, HO0.out, by omega, by rw [HN.out]; exact isPS_nil⟩
  · have h1 : s.toList.isEmpty = false := by cases hq : s.toList with | nil => exact absurd hq h0 | cons _ _ => rfl
    have HN := Lib.hid (show s.data.toList ≠ [] from fun e => h0 ((ByteArray.toList_eq s).trans e))
    obtain ⟨i0, hi, hz0, hz1, hz2⟩ := info_parts info_Task
    have HI := Lib.hid (And.intro hi (And.intro hz0 (And.intro hz1 hz2)))
    clear h0 hi hz0 hz1 hz2
    go_enter Tryd.func17, Tryd.ntmps17
    go_wp2_with fail
    refine (c_Split s _ (HE.out.below HB0.out) (by omega)).mono ?_
    rintro r w1 ⟨g, n, rfl, hb1, hX, hn⟩
    have HB1 := Lib.hid (below2 HB0.out hb1)
    have HO1 := Lib.hid (HO0.out.below hb1)
    have HX1 := Lib.hid hX
    have HL := Lib.hid hn
    have hnb : n ≤ 1048577 := by
      have h1 := Lib.join_length
      rw [hn]
      have h2 : ∀ (r : List (List UInt8)), r ≠ [] → r.length ≤ (Lib.join r tSep).length + 1 := by
        intro r
        cases r with
        | nil => intro h; exact absurd rfl h
        | cons x r => intro _; rw [h1]; simp [tSep]; omega
      have h3 := h2 _ (spl_ne s.data.toList)
      rw [spl_join] at h3
      have h4 : s.data.toList.length = s.size := by rw [Array.length_toList]; rfl
      omega
    clear hb1 hX hn HB0 HO0 hs
    go_wp2
    go_loopw [4, 16] (fun u i wr => ∃ (k : Nat) (A1 : Option Addr) (c1 : Nat) (ts : List Tk), k ≤ n ∧ k ≤ 5 ∧ i = .int .i64 k ∧ u = .slice A1 k c1 ∧ Hid (Below w.heap.size w wr) ∧ Hid (OwnT wr w.heap.size 24 A1 k c1 ts) ∧ Hid (StrB wr g ((spl s.data.toList).map bs)) ∧ Hid (Held preI (spl s.data.toList) ts)) (fun _ i _ => n - (intOf i).toNat)
    case atStart => exact ⟨0, _, 0, [], Nat.zero_le _, Nat.zero_le _, rfl, rfl, HB1, HO1, HX1, Lib.hid (held_nil _ _)⟩
    case round =>
      clear HB1 HO1 HX1
      obtain ⟨k, A1, c1, ts, hk, hk5, rfl, rfl, hb, ho, hX, hH⟩ := hrel
      by_cases hlt : k < n
      · obtain ⟨x, hx⟩ : ∃ x, (spl s.data.toList)[k]? = some x := ⟨_, List.getElem?_eq_getElem (by have := HL.out; omega)⟩
        have hzx : (bs x).size ≤ 1048576 := by
          rw [bs_size]
          have h1 := mem_join_len (sep := tSep) (List.mem_of_getElem? hx)
          rw [spl_join] at h1
          have h2 : s.data.toList.length = s.size := by rw [Array.length_toList]; rfl
          have := HZ.out
          omega
        have y0 := hX.out.at_ (k := k) (x := bs x) (by rw [List.getElem?_map, hx]; rfl)
        have HX := Lib.hid hx
        clear hx
        go_wp2_with fail
        refine (c_impl_ParseTask (bs x) _ (HE.out.below hb.out) hzx).mono ?_
        rintro r w2 ⟨⟨tl, th, td, te, tc⟩, b, rfl, hb2, hp⟩
        rw [bsD] at hp
        have HP := Lib.hid hp
        have HB2 := Lib.hid (below2 hb.out hb2)
        have HO2 := Lib.hid (ho.out.below hb2)
        have HX2 := Lib.hid (hX.out.below hb2)
        clear hp hb2 y0 hb ho hX hzx
        cases b
        · go_wp2
          go_ret2
          refine ⟨none, 0, 0, [], false, rfl, below2 HB2.out (below_alloc _), OwnT.nil_ _ _ _, by omega, noI HN.out HX.out fun u hu => ?_⟩
          rcases HP.out with ⟨h, _⟩ | ⟨_, _, h⟩
          · cases h
          · exact h u hu
        · by_cases h5 : k = 5
          · subst h5
            go_wp2
            go_ret2
            exact ⟨none, 0, 0, [], false, rfl, below2 HB2.out (below_alloc _), OwnT.nil_ _ _ _, by omega, longI HN.out (by have := HL.out; omega)⟩
          · have h5' : ((k : Int) == 5) = false := by rw [beq_eq_false_iff_ne]; omega
            have hbb2 := below2 (below_alloc (w := w2) (.cells #[.int .i64 tl, .int .i64 th, .int .i64 td, .int .i64 te, .bool tc] 24)) (below_alloc (.cells #[.int .i64 tl, .int .i64 th, .int .i64 td, .int .i64 te, .bool tc] 24))
            have HOA := Lib.hid (HO2.out.below hbb2)
            have HBA := Lib.hid (below2 HB2.out hbb2)
            have HXA := Lib.hid (HX2.out.below hbb2)
            have HNW := Lib.hid (Tk.news (w2.alloc (.cells #[.int .i64 tl, .int .i64 th, .int .i64 td, .int .i64 te, .bool tc] 24)) 24 ⟨tl, th, td, te, tc⟩)
            clear hbb2
            go_wp2_with (at_builtin; refine wpList_append_task rfl _ _ 32 rfl i0 Tryd.underlying32 HI.out.1 HI.out.2.1 HI.out.2.2.1 HI.out.2.2.2 rfl HOA.out (by omega) _ ⟨tl, th, td, te, tc⟩ rfl (by simpa using HNW.out) (HBA.out.size) ?_; intro A2 c2 w3 ho3 hg3; have HO3 := Lib.hid ho3; have HG3 := Lib.hid hg3; clear ho3 hg3)
            go_roundw
            case rel =>
              refine ⟨k + 1, A2, c2, ts ++ [⟨tl, th, td, te, tc⟩], by omega, by omega, by go_num, rfl, Lib.hid (own_below HBA.out HOA.out HG3.out HBA.out.size), HO3, Lib.hid (HXA.out.grown HOA.out HG3.out), Lib.hid ?_⟩
              rcases HP.out with ⟨_, h1, h2⟩ | ⟨h, _⟩
              · refine held_snoc hH.out h1 ?_
                rw [HO2.out.1, HX.out, h2]
                rfl
              · cases h
            case measure => simp [intOf]; omega
      · obtain rfl : k = n := by omega
        go_wp2
        go_ret2
        exact ⟨_, _, _, ts, true, rfl, hb.out, ho.out, hk5, held_doneI hH.out (by rw [ho.out.1]; exact HL.out) (by rw [ho.out.1]; exact hk5)⟩
end Go.Proofs.YtncpnjnmljobgaaDoor
