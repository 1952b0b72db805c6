/-
  The walk of the law that the parsers of tasks agree.
-/
import Derived.Test.YtncpnjnmljobgaaDoorPImplT
import Derived.Test.YtncpnjnmljobgaaDoorTask
namespace Go.Proofs.YtncpnjnmljobgaaDoor
set_option maxRecDepth 100000
open Go.RowKit
set_option maxHeartbeats 2000000 in
theorem w_FnExactParseTask (s : ByteArray) (w : World) (hm : s.size ≤ maxLen) (hE : Env w) : Calls Tryd.prog 6 #[.string s] w (Ret w (.bool true)) := by
  unfold maxLen at hm
  by_cases hn : 1048576 < s.size
  · go_enter Tryd.func6, Tryd.ntmps6
    go_wp2
    go_ret
    exact ⟨rfl, Below.refl _ _⟩
  · have HE := Lib.hid hE
    have CI := Lib.hid (fun W (h : Env W) => c_impl_ParseTask s W h (by omega))
    have CS := Lib.hid (fun W => c_spec_ParseTask s W (by omega))
    clear hE
    go_enter Tryd.func6, Tryd.ntmps6
    go_wp2_with fail
    refine (CS.out _).mono ?_
    rintro r w1 ⟨⟨l, h, d, e, c⟩, b, rfl, hb1, hp1⟩
    have HB1 := Lib.hid hb1
    have HP1 := Lib.hid hp1
    have F1 := Five.new w1 24 (.int .i64 l) (.int .i64 h) (.int .i64 d) (.int .i64 e) (.bool c)
    clear hb1 hp1
    go_wp2_with fail
    refine (CI.out _ (HE.out.below (below2 HB1.out (below_alloc _)))).mono ?_
    rintro r w2 ⟨t', b', rfl, hb2, hp2⟩
    obtain ⟨rfl, rfl⟩ := HP1.out.same hp2
    have F2 := F1.below hb2
    have HB2 := Lib.hid (below2 HB1.out (below2 (below_alloc _) hb2))
    have CE := Lib.hid (fun W => show Calls Tryd.prog 28 #[.agg #[.int .i64 l, .int .i64 h, .int .i64 d, .int .i64 e, .bool c], .agg #[.int .i64 l, .int .i64 h, .int .i64 d, .int .i64 e, .bool c]] W (Ret W (.bool true)) from by
      have hc := c_eqTask l h d e l h d e c c W
      rw [(Tk.eqB_iff _ _).2 rfl] at hc
      exact hc)
    clear hb2 hp2 F1
    obtain ⟨k0, k1, k2, k3, k4, k5⟩ := F2
    go_wp2_with fail
    refine (CE.out _).mono ?_
    rintro r w3 ⟨rfl, hb3⟩
    have HB3 := Lib.hid (below2 HB2.out (below2 (below_alloc _) hb3))
    clear hb3
    cases b
    · go_wp2
      go_ret
      exact ⟨rfl, HB3.out⟩
    · go_wp2
      go_ret
      exact ⟨rfl, HB3.out⟩
end Go.Proofs.YtncpnjnmljobgaaDoor
