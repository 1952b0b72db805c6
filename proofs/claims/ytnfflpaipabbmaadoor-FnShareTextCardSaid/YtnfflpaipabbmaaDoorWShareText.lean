/-
  The walk of the law that texts tell shares apart.
-/
import Derived.Test.YtnfflpaipabbmaaDoorWTextS
namespace Go.Proofs.YtnfflpaipabbmaaDoor
set_option maxRecDepth 100000
open Go.RowKit
set_option maxHeartbeats 2000000 in
theorem w_FnShareText (A : Option Addr) (n c : Nat) (w : World) (hm : n ≤ maxLen) (h : IsBytes w A n c) (hE : Env w) : Calls Tryd.prog 7 #[.slice A n c] w (Ret w (.bool true)) := by
  unfold maxLen at hm
  have HE := Lib.hid hE
  clear hE
  by_cases hn : 1048576 < n
  · go_enter Tryd.func7, Tryd.ntmps7
    go_wp2
    go_ret
    exact ⟨rfl, Below.refl _ _⟩
  · go_enter Tryd.func7, Tryd.ntmps7
    go_wp2_with fail
    refine (c_DrawFormatShare A n c w h (by omega)).mono ?_
    rintro r w1 ⟨v, ⟨a, b, rfl⟩, rfl, hb1⟩
    have HB1 := Lib.hid hb1
    have HE1 := Lib.hid (HE.out.below (below2 hb1 (below_alloc (w := w1) (.cells #[.int .i64 a, .int .i64 b] 31))))
    clear hb1 h
    have CI := Lib.hid (c_impl_FormatShare a b)
    have CS := Lib.hid (c_spec_FormatShare a b)
    cases hv : shB a b
    · rw [fmtS_no hv, show bs [] = { data := #[] } from rfl] at CI CS
      go_wp2_with fail
      refine (CI.out _ HE1.out).mono ?_
      rintro r w2 ⟨rfl, hb2⟩
      obtain ⟨y0, y1, y2⟩ := box2 hb2
      have HB2 := Lib.hid (below2 HB1.out (below2 (below_alloc (w := w1) (.cells #[.int .i64 a, .int .i64 b] 31)) hb2))
      clear hb2
      generalize w1.heap.size = G at y0 y1 y2 ⊢
      go_wp2_with fail
      refine (CS.out _).mono ?_
      rintro r w3 ⟨rfl, hb3⟩
      have z0 := kept y0 hb3 y2
      have z1 := kept y1 hb3 y2
      have HB3 := Lib.hid (below2 HB2.out hb3)
      clear hb3 y0 y1 y2
      go_wp2_with fail
      refine (CS.out _).mono ?_
      rintro r w4 ⟨rfl, hb4⟩
      have HB4 := Lib.hid (below2 HB3.out hb4)
      clear hb4
      go_wp2
      go_ret
      exact ⟨rfl, HB4.out⟩
    · obtain ⟨s, es, s1, s2⟩ := fmtS_ne hv
      obtain ⟨x, y, l, e1, hx, e2, hy⟩ := fmtS_ends hv
      rw [es] at CI CS
      have HL := Lib.hid (show s.toList = fmtS a b by rw [← es, bs_toList])
      obtain ⟨N, hN⟩ : ∃ N, s.size = N := ⟨_, rfl⟩
      have hlen : (fmtS a b).length = N := by rw [← hN, ← es, bs_size]
      have hN9 : N ≤ 21 := by rw [← hlen]; exact fmtS_len hv
      have hN1 : 1 ≤ N := by rw [← hlen, e1]; simp
      have h0s : 0 < s.size := by omega
      have hls : N - 1 < s.size := by omega
      have hb0 : ((s[0]'h0s).toNat == 47) = false := by
        have := byte_at HL.out h0s
        rw [e1] at this
        have e : x = s[0] := by simpa using this
        rw [← e, beq_eq_false_iff_ne]
        unfold isDg at hx
        omega
      have hbN : ((s[N - 1]'hls).toNat == 47) = false := by
        have h2 := byte_at HL.out hls
        rw [hlen] at e2
        rw [e2] at h2
        have e : y = s[N - 1] := by simpa using h2
        rw [← e, beq_eq_false_iff_ne]
        unfold isDg at hy
        omega
      clear e1 e2 hx hy hlen
      have HV := Lib.hid hv
      have HES := Lib.hid es
      clear hv es
      go_wp2_with fail
      refine (CI.out _ HE1.out).mono ?_
      rintro r w2 ⟨rfl, hb2⟩
      obtain ⟨y0, y1, y2⟩ := box2 hb2
      have HB2 := Lib.hid (below2 HB1.out (below2 (below_alloc (w := w1) (.cells #[.int .i64 a, .int .i64 b] 31)) hb2))
      clear hb2
      generalize w1.heap.size = G at y0 y1 y2 ⊢
      go_wp2_with fail
      refine (CS.out _).mono ?_
      rintro r w3 ⟨rfl, hb3⟩
      have z0 := kept y0 hb3 y2
      have z1 := kept y1 hb3 y2
      have HB3 := Lib.hid (below2 HB2.out hb3)
      clear hb3 y0 y1 y2
      go_wp2_with fail
      refine (c_impl_AddShares _ _ _ _ _).mono ?_
      rintro r w4 ⟨rfl, hb4⟩
      have HB4 := Lib.hid (below2 HB3.out hb4)
      clear hb4 z0 z1
      obtain ⟨M, rfl⟩ : ∃ M, N = M + 1 := ⟨N - 1, by omega⟩
      have hbM : ((s[M]'(by omega)).toNat == 47) = false := hbN
      have hwM : IntKind.i64.wrap ((M : Int) + 1 - 1) = (M : Int) := by rw [show (M : Int) + 1 - 1 = M by omega]; exact IntWalk.i64_in _ (by omega)
      have hM0 : (0 : Int) ≤ (M : Int) := by omega
      have hMs : M < s.size := by omega
      have hc0 : (((s[0]'h0s).toNat : Int) == 47) = false := by rw [beq_eq_false_iff_ne] at hb0 ⊢; omega
      have hcM : (((s[M]'hMs).toNat : Int) == 47) = false := by rw [beq_eq_false_iff_ne] at hbM ⊢; omega
      have hd0 : (((s[0]'h0s).toNat : Int) != 47) = true := by rw [bne, hc0]; rfl
      have hdM : (((s[M]'hMs).toNat : Int) != 47) = true := by rw [bne, hcM]; rfl
      clear hb0 hbN hbM hls
      cases hok : adB a b 1 3
      · clear hok
        generalize adN a b 1 3 = p
        generalize adD a b 1 3 = q
        go_wp2
        go_ret
        exact ⟨rfl, below2 HB4.out (below_alloc _)⟩
      · have hne := third_ne hok
        have hsh := ad_sh hok
        generalize adN a b 1 3 = p at *
        generalize adD a b 1 3 = q at *
        have hts : (bs (fmtS p q)).toList ≠ s.toList := by
          rw [bs_toList, HL.out]
          intro e
          exact hne (fmtS_inj hsh HV.out e)
        have CT := Lib.hid (c_impl_FormatShare p q)
        generalize bs (fmtS p q) = t at CT hts
        have ht1 : (t.toList == s.toList) = false := by rw [beq_eq_false_iff_ne]; exact hts
        have ht2 : (t.toList != s.toList) = true := by rw [bne, ht1]; rfl
        have HE5 := Lib.hid (HE.out.below (below2 HB4.out (below_alloc (w := w4) (.cells #[.int .i64 p, .int .i64 q] 31))))
        clear hok hne hsh hts
        go_wp2_with fail
        refine (CT.out _ HE5.out).mono ?_
        rintro r w5 ⟨rfl, hb5⟩
        have HB5 := Lib.hid (below2 HB4.out (below2 (below_alloc _) hb5))
        clear hb5
        go_wp2
        go_ret
        exact ⟨rfl, HB5.out⟩
end Go.Proofs.YtnfflpaipabbmaaDoor
