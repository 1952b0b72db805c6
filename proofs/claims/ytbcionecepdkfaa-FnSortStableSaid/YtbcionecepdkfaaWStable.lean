/-
  The walk of the law that sorting is stable.
-/
import Derived.Test.YtbcionecepdkfaaWSort
import Derived.Deep.AppendLies
namespace Go.Proofs.Ytbcionecepdkfaa
open Go.RowKit
/-- append of one task to a row of the call's own; where the row lies then. -/
theorem wpList_append_task_at {w : World} {B : Nat} {e : TypeId} {A : Option Addr} {n c : Nat} {ts : List Tk} {P : Program} {ops : Array Oper} {rest : List Oper} {o : Oper} {a : Act} {Q : Exit → Act → World → Prop} (hgd : o.guard = none) (s x : Operand) (t : TypeId)
    (ho : o.op = .call { callee := .builtin .append, args := #[s, x], argTypes := #[t, t] }) (i : TypeInfo) (ht : P.underlying t = some (.slice e)) (hi : P.info? e = some i)
    (hz : i.zero = some (.agg #[.int .i64 0, .int .i64 0, .int .i64 0, .int .i64 0, .bool false])) (hsize : i.size = 5) (hby : i.bytes = 40)
    (hs : a.eval s = .slice A n c) (hown : OwnT w B e A n c ts) (hn : n ≤ 1000000000) (bk : Nat) (tk : Tk) (hx : a.eval x = .slice (some ⟨bk, 0, none⟩) 1 1)
    (hnews : ∀ (j : Nat) (u : Value), tk.cells[j]? = some u → w.cell? ((⟨bk, 0, none⟩ : Addr).add j) = some u) (hbase : B ≤ w.heap.size)
    (h : ∀ g' c' w', OwnT w' B e (some ⟨g', 0, none⟩) (n + 1) c' (ts ++ [tk]) → w.grownBy w' (Value.slice A n c).ownBlock → ((Value.slice A n c).ownBlock = some g' ∨ g' = w.heap.size) → g' < w'.heap.size → wpList P ops Q rest (a.put o.dst (.slice (some ⟨g', 0, none⟩) (n + 1) c')) w') : wpList P ops Q (o :: rest) a w := by
  refine wpList_append_lies w hgd s x t ho B e i _ 5 40 ht hi hz hsize hby rfl (by omega) (.slice A n c) n (tcells ts) hs hown.2 ⟨bk, 0, none⟩ 1 1 tk.cells hx rfl hnews tk.one (by omega) (by unfold maxLen; omega) (by omega) hbase _ rfl ?_
  intro g' c' w' hown' hg' hor hlt
  obtain ⟨A2, c2, e2, ho'⟩ := OwnT.snoc hown.1 hown'
  injection e2 with e3 e4 e5
  subst e3 e5
  exact h g' c' w' ho' hg' hor hlt
theorem OwnT.lt_ {w : World} {B : Nat} {e : TypeId} {g n c : Nat} {ts : List Tk} (k : OwnT w B e (some ⟨g, 0, none⟩) n c ts) : g < w.heap.size := (k.2.lt g rfl).2
theorem new_ne {w w' : World} {g h g' n c : Nat} (hb : Below w.heap.size w w') (hg : g < w.heap.size) (hne : h ≠ g) (hor : (Value.slice (some ⟨h, 0, none⟩) n c).ownBlock = some g' ∨ g' = w'.heap.size) : g' ≠ g := by
  have := hb.size
  rcases hor with e | e
  · have e1 : h = g' := by have : some h = some g' := e; injection this
    omega
  · omega
theorem OwnT.kept_other {w w' : World} {B : Nat} {e : TypeId} {g h n c m d : Nat} {ts : List Tk} (k : OwnT w B e (some ⟨g, 0, none⟩) n c ts) (hg : w.grownBy w' (Value.slice (some ⟨h, 0, none⟩) m d).ownBlock) (hne : g ≠ h) : OwnT w' B e (some ⟨g, 0, none⟩) n c ts :=
  k.kept_n hg fun g' hg' e => by
    have e1 : g = g' := by have : some g = some g' := hg'; injection this
    have e2 : h = g' := by have : some h = some g' := e; injection this
    exact hne (e1.trans e2.symm)
set_option maxHeartbeats 4000000 in
set_option maxRecDepth 100000 in
theorem w_FnSortStable (A : Option Addr) (n c : Nat) (w : World) (hm : n ≤ maxLen) (hcode : IsBytes w A n c) : Calls Try.prog 3 #[.slice A n c] w (Ret w (.bool true)) := by
  unfold maxLen at hm
  by_cases hn : 1048576 < n
  · go_enter Try.func3, Try.ntmps3
    go_wp2
    go_ret
    exact ⟨rfl, Below.refl _ _⟩
  · have HC := Lib.hid hcode
    clear hcode
    go_enter Try.func3, Try.ntmps3
    go_wp2_with fail
    refine (c_spec_DrawSortDue A n c _ HC.out (by omega)).mono ?_
    rintro r w1 ⟨A1, n1, c1, ts, rfl, hn1, hnc1, hb1, hi1⟩
    have HAF := Lib.hid hnc1.2
    have HB1 := Lib.hid hb1
    have HI1 := Lib.hid hi1
    have HL := Lib.hid hi1.1
    clear hb1 hi1 hnc1
    go_wp2_with fail
    refine (c_impl_SortDue A1 n1 c1 ts _ HI1.out HAF.out (by omega)).mono ?_
    rintro r w2 ⟨A2, n2, c2, rfl, hb2, ho2⟩
    have HB2 := Lib.hid (below2 HB1.out hb2)
    have HI2 := Lib.hid (HI1.out.below hb2)
    have HX2 := Lib.hid ho2.isTs
    have HA2 := Lib.hid ho2.addr
    have hn2 := srA_len6 ho2.1 HL.out hn1
    clear hb2 ho2
    go_wp2_with fail
    refine (c_spec_SortDue A1 n1 c1 ts _ HI2.out (by omega)).mono ?_
    rintro r w3 ⟨A3, n3, c3, rfl, hb3, ho3⟩
    have HB3 := Lib.hid (below2 HB2.out hb3)
    have HI3 := Lib.hid (HI2.out.below hb3)
    have HX3 := Lib.hid (HX2.out.below hb3)
    have HY3 := Lib.hid ho3.isTs
    clear hb3 HB1 HI1 HB2 HI2 HX2 ho3
    go_wp2_with fail
    refine (c_dmTasks A2 A3 n2 n3 c2 c3 (srA ts) _ HX3.out HY3.out (by omega)).mono ?_
    rintro r w4 ⟨rfl, hb4⟩
    have HB4 := Lib.hid (below2 HB3.out hb4)
    have HI4 := Lib.hid (HI3.out.below hb4)
    have HX4 := Lib.hid (HX3.out.below hb4)
    clear hb4 HB3 HI3 HX3 HY3
    by_cases h20 : n2 = 0
    · subst h20
      go_wp2_with fail
      refine (c_spec_SortDue A1 n1 c1 ts _ HI4.out (by omega)).mono ?_
      rintro r w6 ⟨A6, n6, c6, rfl, hb6, ho6⟩
      have HB6 := Lib.hid (below2 HB4.out hb6)
      have HX6 := Lib.hid (HX4.out.below hb6)
      have HY6 := Lib.hid ho6.isTs
      clear hb6 ho6
      go_wp2_with fail
      refine (c_dmTasks A2 A6 0 n6 c2 c6 (srA ts) _ HX6.out HY6.out (by omega)).mono ?_
      rintro r w7 ⟨rfl, hb7⟩
      have HB7 := Lib.hid (below2 HB6.out hb7)
      clear hb7
      go_wp2
      go_ret
      exact ⟨rfl, HB7.out⟩
    · have hv : svB ts = true := by
        cases hv : svB ts
        · have := HX4.out.1; rw [srA_no hv] at this; simp at this; omega
        · rfl
      rw [srA_yes hv] at HX4
      obtain rfl : n1 = n2 := by have := HX4.out.1; rw [srt_len] at this; have := HL.out; omega
      obtain ⟨i0, hi, hz0, hz1, hz2⟩ := info_parts info_Task
      have HI := Lib.hid (And.intro hi (And.intro hz0 (And.intro hz1 hz2)))
      have hx20 : ((n1 : Int) == 0) = false := by rw [beq_eq_false_iff_ne]; omega
      clear hi hz0 hz1 hz2 hv h20
      go_wp2
      clear hx20
      go_loopw [5] (fun s5 wr => ∃ k : Nat, k ≤ n1 ∧ s5 = .int .i64 k ∧ Below w4.heap.size w4 wr) (fun i _ => n1 - (intOf i).toNat)
      case atStart => exact ⟨0, Nat.zero_le _, rfl, Below.refl _ _⟩
      case round =>
        obtain ⟨k, hk, rfl, hb⟩ := hrel
        have HB := Lib.hid hb
        clear hb
        by_cases hlt : k < n1
        · obtain ⟨y, hy⟩ : ∃ t, (srt ts)[k]? = some t := at_of (by have := HX4.out.1; omega)
          have HY := Lib.hid hy
          have HE1 := Lib.hid (OwnT.empty (B := w4.heap.size) (e := 28) wr HB.out.size)
          have HBe := Lib.hid (below2 (below_alloc (w := wr) (.cells #[] 28)) (below_alloc (.cells #[] 28)))
          have hz1 : w4.heap.size ≤ (wr.alloc (.cells #[] 28)).heap.size := by have := HB.out.size; simp; omega
          have HE2 := Lib.hid (OwnT.empty (B := w4.heap.size) (e := 28) (wr.alloc (.cells #[] 28)) hz1)
          rw [World.size_alloc] at HE2
          have HEa := Lib.hid (HE1.out.below (below_alloc (.cells #[] 28)))
          have hwn : wr.heap.size ≠ wr.heap.size + 1 := by omega
          have HNE := Lib.hid hwn
          clear hy hz1 hwn HE1
          go_wp2
          go_loopw [6, 7, 8] (fun s6 s7 s8 wi => ∃ (i ga qa ca gb qb cb : Nat), i ≤ n1 ∧ qa ≤ i ∧ qb ≤ i ∧ s6 = .slice (some ⟨ga, 0, none⟩) qa ca ∧ s7 = .slice (some ⟨gb, 0, none⟩) qb cb ∧ s8 = .int .i64 i ∧ Hid (ga ≠ gb) ∧ Hid (Below w4.heap.size w4 wi) ∧ Hid (OwnT wi w4.heap.size 28 (some ⟨ga, 0, none⟩) qa ca (keyL y (ts.take i))) ∧ Hid (OwnT wi w4.heap.size 28 (some ⟨gb, 0, none⟩) qb cb (keyL y ((srt ts).take i)))) (fun _ _ i _ => n1 - (intOf i).toNat)
          case atStart => exact ⟨0, _, 0, 0, _, 0, 0, Nat.zero_le _, Nat.le_refl _, Nat.le_refl _, rfl, rfl, rfl, HNE, Lib.hid (below2 HB.out HBe.out), HEa, HE2⟩
          case round =>
            obtain ⟨i, ga, qa, ca, gb, qb, cb, hi, hqa, hqb, rfl, rfl, rfl, hne, HBi, HOa, HOb⟩ := hrel
            by_cases hli : i < n1
            · obtain ⟨t, ht⟩ : ∃ t, ts[i]? = some t := at_of (by have := HL.out; omega)
              obtain ⟨z, hz⟩ : ∃ t, (srt ts)[i]? = some t := at_of (by have := HX4.out.1; omega)
              obtain ⟨b, o, e1, hbb, h0, h1, h2, h3, h4⟩ := (HI4.out.below HBi.out).2 i t ht
              obtain ⟨b', o', e2, hbb', g0, g1, g2, g3, g4⟩ := (HX4.out.below HBi.out).2 i z hz
              obtain ⟨b2, o2, e3, hbb2, y0, y1, y2, y3, y4⟩ := (HX4.out.below HBi.out).2 k y HY.out
              subst e1 e2
              injection e3 with e3
              injection e3 with e4 e5
              subst e4 e5
              have HZ := Lib.hid hz
              clear hz
              rcases key_ways t y with ⟨kt, a1, a2⟩ | ⟨kt, a1⟩ | ⟨kt, a1, a2⟩
              · have KE := Lib.hid (keyL_yes ht kt)
                clear kt ht
                go_wp2_with fail
                go_quiet (fail)
                clear a1 a2 g0 g1 g2 g3 g4 y0 y1 y2 y3 y4
                have BEL := below2 (below_drewN (Below.refl _ wr) nq) (below_alloc (w := wr.drewN nq) (.cells #[.int .i64 t.low, .int .i64 t.high, .int .i64 t.due, .int .i64 t.every, .bool t.crit] 28))
                go_wp2_with (at_builtin; refine wpList_append_task_at rfl _ _ 23 rfl i0 Try.underlying23 HI.out.1 HI.out.2.1 HI.out.2.2.1 HI.out.2.2.2 rfl (HOa.out.below BEL) (by omega) _ t rfl (fun j u h => Tk.news (wr.drewN nq) 28 t j u h) (Nat.le_trans HBi.out.size BEL.size) ?_; intro ga3 ca3 w6 hoN hga3 horN hltN; rw [← KE.out] at hoN; have HOa3 := Lib.hid hoN; have HOb3 := Lib.hid ((HOb.out.below BEL).kept_other hga3 (Ne.symm hne.out)); have HB6 := Lib.hid (own_below (below2 HBi.out BEL) (HOa.out.below BEL) hga3 (below2 HBi.out BEL).size); have NE3 := Lib.hid (new_ne BEL HOb.out.lt_ (Ne.symm (Ne.symm hne.out)) horN); clear hoN hga3 horN hltN)
                clear BEL h0 h1 h2 h3 h4
                obtain ⟨b6, o6, e6, hb6, g0, g1, g2, g3, g4⟩ := (HX4.out.below HB6.out).2 i z HZ.out
                obtain ⟨b7, o7, e7, hb7, y0, y1, y2, y3, y4⟩ := (HX4.out.below HB6.out).2 k y HY.out
                injection e6 with e6
                injection e7 with e7
                injection e6 with p1 p2
                injection e7 with p3 p4
                subst p1 p2 p3 p4
                rcases key_ways z y with ⟨kz, a1, a2⟩ | ⟨kz, a1⟩ | ⟨kz, a1, a2⟩
                · have KZ := Lib.hid (keyL_yes HZ.out kz)
                  clear kz
                  go_wp2_with fail
                  go_quiet (fail)
                  clear a1 a2 y0 y1 y2 y3 y4
                  have BEL := below2 (below_drewN (Below.refl _ w6) nq) (below_alloc (w := w6.drewN nq) (.cells #[.int .i64 z.low, .int .i64 z.high, .int .i64 z.due, .int .i64 z.every, .bool z.crit] 28))
                  go_wp2_with (at_builtin; refine wpList_append_task_at rfl _ _ 23 rfl i0 Try.underlying23 HI.out.1 HI.out.2.1 HI.out.2.2.1 HI.out.2.2.2 rfl (HOb3.out.below BEL) (by omega) _ z rfl (fun j u h => Tk.news (w6.drewN nq) 28 z j u h) (Nat.le_trans HB6.out.size BEL.size) ?_; intro gb7 cb7 w7 hoN hgb7 horN hltN; rw [← KZ.out] at hoN; have HOb7 := Lib.hid hoN; have HOa7 := Lib.hid ((HOa3.out.below BEL).kept_other hgb7 NE3.out); have HB7 := Lib.hid (own_below (below2 HB6.out BEL) (HOb3.out.below BEL) hgb7 (below2 HB6.out BEL).size); have NE7 := Lib.hid (new_ne BEL HOa3.out.lt_ (Ne.symm NE3.out) horN); clear hoN hgb7 horN hltN)
                  clear BEL g0 g1 g2 g3 g4
                  go_wp2
                  go_roundw
                  case rel => exact ⟨i + 1, ga3, qa + 1, ca3, gb7, qb + 1, cb7, by omega, by omega, by omega, rfl, rfl, by go_num, Lib.hid (Ne.symm NE7.out), HB7, HOa7, HOb7⟩
                  case measure => simp [intOf]; omega
                · have KZ := Lib.hid (keyL_no HZ.out kz)
                  clear kz
                  go_wp2_with fail
                  go_quiet (fail)
                  clear a1 y0 y1 y2 y3 y4
                  have HB7 := Lib.hid (below_drewN HB6.out nq)
                  have HOa7 := Lib.hid (HOa3.out.below (below_drewN (Below.refl _ w6) nq))
                  have HOb7 := Lib.hid (HOb3.out.below (below_drewN (Below.refl _ w6) nq))
                  rw [← KZ.out] at HOb7
                  clear g0 g1 g2 g3 g4
                  go_wp2
                  go_roundw
                  case rel => exact ⟨i + 1, ga3, qa + 1, ca3, gb, qb, cb, by omega, by omega, by omega, rfl, rfl, by go_num, NE3, HB7, HOa7, HOb7⟩
                  case measure => simp [intOf]; omega
                · have KZ := Lib.hid (keyL_no HZ.out kz)
                  clear kz
                  go_wp2_with fail
                  go_quiet (fail)
                  clear a1 a2 y0 y1 y2 y3 y4
                  have HB7 := Lib.hid (below_drewN HB6.out nq)
                  have HOa7 := Lib.hid (HOa3.out.below (below_drewN (Below.refl _ w6) nq))
                  have HOb7 := Lib.hid (HOb3.out.below (below_drewN (Below.refl _ w6) nq))
                  rw [← KZ.out] at HOb7
                  clear g0 g1 g2 g3 g4
                  go_wp2
                  go_roundw
                  case rel => exact ⟨i + 1, ga3, qa + 1, ca3, gb, qb, cb, by omega, by omega, by omega, rfl, rfl, by go_num, NE3, HB7, HOa7, HOb7⟩
                  case measure => simp [intOf]; omega
              · have KE := Lib.hid (keyL_no ht kt)
                clear kt ht
                go_wp2_with fail
                go_quiet (fail)
                clear a1 g0 g1 g2 g3 g4 y0 y1 y2 y3 y4
                have HB6 := Lib.hid (below_drewN HBi.out nq)
                have HOa3 := Lib.hid (HOa.out.below (below_drewN (Below.refl _ wr) nq))
                have HOb3 := Lib.hid (HOb.out.below (below_drewN (Below.refl _ wr) nq))
                have NE3 := hne
                rw [← KE.out] at HOa3
                clear h0 h1 h2 h3 h4 HBi HOa HOb hbb hbb' hbb2
                generalize wr.drewN nq = w6 at *
                obtain ⟨b6, o6, e6, hb6, g0, g1, g2, g3, g4⟩ := (HX4.out.below HB6.out).2 i z HZ.out
                obtain ⟨b7, o7, e7, hb7, y0, y1, y2, y3, y4⟩ := (HX4.out.below HB6.out).2 k y HY.out
                injection e6 with e6
                injection e7 with e7
                injection e6 with p1 p2
                injection e7 with p3 p4
                subst p1 p2 p3 p4
                rcases key_ways z y with ⟨kz, a1, a2⟩ | ⟨kz, a1⟩ | ⟨kz, a1, a2⟩
                · have KZ := Lib.hid (keyL_yes HZ.out kz)
                  clear kz
                  go_wp2_with fail
                  go_quiet (fail)
                  clear a1 a2 y0 y1 y2 y3 y4
                  have BEL := below2 (below_drewN (Below.refl _ w6) nq) (below_alloc (w := w6.drewN nq) (.cells #[.int .i64 z.low, .int .i64 z.high, .int .i64 z.due, .int .i64 z.every, .bool z.crit] 28))
                  go_wp2_with (at_builtin; refine wpList_append_task_at rfl _ _ 23 rfl i0 Try.underlying23 HI.out.1 HI.out.2.1 HI.out.2.2.1 HI.out.2.2.2 rfl (HOb3.out.below BEL) (by omega) _ z rfl (fun j u h => Tk.news (w6.drewN nq) 28 z j u h) (Nat.le_trans HB6.out.size BEL.size) ?_; intro gb7 cb7 w7 hoN hgb7 horN hltN; rw [← KZ.out] at hoN; have HOb7 := Lib.hid hoN; have HOa7 := Lib.hid ((HOa3.out.below BEL).kept_other hgb7 NE3.out); have HB7 := Lib.hid (own_below (below2 HB6.out BEL) (HOb3.out.below BEL) hgb7 (below2 HB6.out BEL).size); have NE7 := Lib.hid (new_ne BEL HOa3.out.lt_ (Ne.symm NE3.out) horN); clear hoN hgb7 horN hltN)
                  clear BEL g0 g1 g2 g3 g4
                  go_wp2
                  go_roundw
                  case rel => exact ⟨i + 1, ga, qa, ca, gb7, qb + 1, cb7, by omega, by omega, by omega, rfl, rfl, by go_num, Lib.hid (Ne.symm NE7.out), HB7, HOa7, HOb7⟩
                  case measure => simp [intOf]; omega
                · have KZ := Lib.hid (keyL_no HZ.out kz)
                  clear kz
                  go_wp2_with fail
                  go_quiet (fail)
                  clear a1 y0 y1 y2 y3 y4
                  have HB7 := Lib.hid (below_drewN HB6.out nq)
                  have HOa7 := Lib.hid (HOa3.out.below (below_drewN (Below.refl _ w6) nq))
                  have HOb7 := Lib.hid (HOb3.out.below (below_drewN (Below.refl _ w6) nq))
                  rw [← KZ.out] at HOb7
                  clear g0 g1 g2 g3 g4
                  go_wp2
                  go_roundw
                  case rel => exact ⟨i + 1, ga, qa, ca, gb, qb, cb, by omega, by omega, by omega, rfl, rfl, by go_num, NE3, HB7, HOa7, HOb7⟩
                  case measure => simp [intOf]; omega
                · have KZ := Lib.hid (keyL_no HZ.out kz)
                  clear kz
                  go_wp2_with fail
                  go_quiet (fail)
                  clear a1 a2 y0 y1 y2 y3 y4
                  have HB7 := Lib.hid (below_drewN HB6.out nq)
                  have HOa7 := Lib.hid (HOa3.out.below (below_drewN (Below.refl _ w6) nq))
                  have HOb7 := Lib.hid (HOb3.out.below (below_drewN (Below.refl _ w6) nq))
                  rw [← KZ.out] at HOb7
                  clear g0 g1 g2 g3 g4
                  go_wp2
                  go_roundw
                  case rel => exact ⟨i + 1, ga, qa, ca, gb, qb, cb, by omega, by omega, by omega, rfl, rfl, by go_num, NE3, HB7, HOa7, HOb7⟩
                  case measure => simp [intOf]; omega
              · have KE := Lib.hid (keyL_no ht kt)
                clear kt ht
                go_wp2_with fail
                go_quiet (fail)
                clear a1 a2 g0 g1 g2 g3 g4 y0 y1 y2 y3 y4
                have HB6 := Lib.hid (below_drewN HBi.out nq)
                have HOa3 := Lib.hid (HOa.out.below (below_drewN (Below.refl _ wr) nq))
                have HOb3 := Lib.hid (HOb.out.below (below_drewN (Below.refl _ wr) nq))
                have NE3 := hne
                rw [← KE.out] at HOa3
                clear h0 h1 h2 h3 h4 HBi HOa HOb hbb hbb' hbb2
                generalize wr.drewN nq = w6 at *
                obtain ⟨b6, o6, e6, hb6, g0, g1, g2, g3, g4⟩ := (HX4.out.below HB6.out).2 i z HZ.out
                obtain ⟨b7, o7, e7, hb7, y0, y1, y2, y3, y4⟩ := (HX4.out.below HB6.out).2 k y HY.out
                injection e6 with e6
                injection e7 with e7
                injection e6 with p1 p2
                injection e7 with p3 p4
                subst p1 p2 p3 p4
                rcases key_ways z y with ⟨kz, a1, a2⟩ | ⟨kz, a1⟩ | ⟨kz, a1, a2⟩
                · have KZ := Lib.hid (keyL_yes HZ.out kz)
                  clear kz
                  go_wp2_with fail
                  go_quiet (fail)
                  clear a1 a2 y0 y1 y2 y3 y4
                  have BEL := below2 (below_drewN (Below.refl _ w6) nq) (below_alloc (w := w6.drewN nq) (.cells #[.int .i64 z.low, .int .i64 z.high, .int .i64 z.due, .int .i64 z.every, .bool z.crit] 28))
                  go_wp2_with (at_builtin; refine wpList_append_task_at rfl _ _ 23 rfl i0 Try.underlying23 HI.out.1 HI.out.2.1 HI.out.2.2.1 HI.out.2.2.2 rfl (HOb3.out.below BEL) (by omega) _ z rfl (fun j u h => Tk.news (w6.drewN nq) 28 z j u h) (Nat.le_trans HB6.out.size BEL.size) ?_; intro gb7 cb7 w7 hoN hgb7 horN hltN; rw [← KZ.out] at hoN; have HOb7 := Lib.hid hoN; have HOa7 := Lib.hid ((HOa3.out.below BEL).kept_other hgb7 NE3.out); have HB7 := Lib.hid (own_below (below2 HB6.out BEL) (HOb3.out.below BEL) hgb7 (below2 HB6.out BEL).size); have NE7 := Lib.hid (new_ne BEL HOa3.out.lt_ (Ne.symm NE3.out) horN); clear hoN hgb7 horN hltN)
                  clear BEL g0 g1 g2 g3 g4
                  go_wp2
                  go_roundw
                  case rel => exact ⟨i + 1, ga, qa, ca, gb7, qb + 1, cb7, by omega, by omega, by omega, rfl, rfl, by go_num, Lib.hid (Ne.symm NE7.out), HB7, HOa7, HOb7⟩
                  case measure => simp [intOf]; omega
                · have KZ := Lib.hid (keyL_no HZ.out kz)
                  clear kz
                  go_wp2_with fail
                  go_quiet (fail)
                  clear a1 y0 y1 y2 y3 y4
                  have HB7 := Lib.hid (below_drewN HB6.out nq)
                  have HOa7 := Lib.hid (HOa3.out.below (below_drewN (Below.refl _ w6) nq))
                  have HOb7 := Lib.hid (HOb3.out.below (below_drewN (Below.refl _ w6) nq))
                  rw [← KZ.out] at HOb7
                  clear g0 g1 g2 g3 g4
                  go_wp2
                  go_roundw
                  case rel => exact ⟨i + 1, ga, qa, ca, gb, qb, cb, by omega, by omega, by omega, rfl, rfl, by go_num, NE3, HB7, HOa7, HOb7⟩
                  case measure => simp [intOf]; omega
                · have KZ := Lib.hid (keyL_no HZ.out kz)
                  clear kz
                  go_wp2_with fail
                  go_quiet (fail)
                  clear a1 a2 y0 y1 y2 y3 y4
                  have HB7 := Lib.hid (below_drewN HB6.out nq)
                  have HOa7 := Lib.hid (HOa3.out.below (below_drewN (Below.refl _ w6) nq))
                  have HOb7 := Lib.hid (HOb3.out.below (below_drewN (Below.refl _ w6) nq))
                  rw [← KZ.out] at HOb7
                  clear g0 g1 g2 g3 g4
                  go_wp2
                  go_roundw
                  case rel => exact ⟨i + 1, ga, qa, ca, gb, qb, cb, by omega, by omega, by omega, rfl, rfl, by go_num, NE3, HB7, HOa7, HOb7⟩
                  case measure => simp [intOf]; omega
            · obtain rfl : i = n1 := by omega
              rw [List.take_of_length_le (by have := HL.out; omega)] at HOa
              rw [List.take_of_length_le (by rw [srt_len]; have := HL.out; omega), show keyL y (srt ts) = keyL y ts from srt_key y.due y.every ts] at HOb
              obtain rfl : qa = qb := by have h1 := HOa.out.1; have h2 := HOb.out.1; omega
              go_wp2_with fail
              refine (c_dmTasks _ _ qa qa ca cb (keyL y ts) _ HOa.out.isTs HOb.out.isTs (by omega)).mono ?_
              rintro r w9 ⟨rfl, hb9⟩
              have HB9 := Lib.hid (below2 HBi.out hb9)
              clear hb9
              go_wp2
              go_roundw
              case rel => exact ⟨k + 1, by omega, by go_num, HB9.out⟩
              case measure => simp [intOf]; omega
        · have HB9 := Lib.hid (below2 HB4.out HB.out)
          go_wp2
          go_ret
          exact ⟨rfl, HB9.out⟩
end Go.Proofs.Ytbcionecepdkfaa
