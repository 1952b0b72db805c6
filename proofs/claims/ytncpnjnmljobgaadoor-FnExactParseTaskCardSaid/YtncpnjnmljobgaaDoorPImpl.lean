/-
  The program's parser of tasks.
-/
import Derived.Test.YtncpnjnmljobgaaDoorPTask
import Derived.Test.YtncpnjnmljobgaaDoorEnv
import Derived.Test.YtncpnjnmljobgaaDoorLayP
namespace Go.Proofs.YtncpnjnmljobgaaDoor
set_option maxRecDepth 100000
open Go.RowKit
/-- The number beside strconv.Atoi's error, or the number. -/
def aV (l : List UInt8) : Int := match Lib.atoiAll l with | .ok v => v | .range => Lib.atoiSat l | _ => 0
/-- What strconv.Atoi answers. -/
def AtoiC (w : World) (s : ByteArray) (r : Ending) (w' : World) : Prop := ∃ e, r = .returned (.tuple #[.int .i64 (aV s.data.toList), e]) ∧ Below w.heap.size w w'
theorem c_Atoi (s : ByteArray) (w : World) (hE : Env w) (hs : s.size ≤ 2097152) : Calls Tryd.prog 32 #[.string s] w (AtoiC w s) := by
  obtain ⟨_, ⟨t1, p1, h1⟩, ⟨t2, p2, h2⟩⟩ := hE
  rcases h : Lib.atoiAll s.data.toList with v | _ | _
  · refine (Any.strconv_Atoi_ok L_atoi s (by omega) v h w).mono ?_
    rintro r w' ⟨rfl, hw⟩
    refine ⟨_, by unfold aV; rw [h], ?_⟩
    rcases hw with rfl | ⟨t, rfl⟩
    · exact Below.refl _ _
    · exact Lib.bytesWorld_below w _ t
  · refine (Any.strconv_Atoi_syntax_var L_atoi s (by omega) h t1 p1 w h1).mono ?_
    rintro r w' ⟨N, rfl, _, _, hb⟩
    exact ⟨_, by unfold aV; rw [h], hb⟩
  · refine (Any.strconv_Atoi_range_var L_atoi s (by omega) h t2 p2 w h2).mono ?_
    rintro r w' ⟨N, rfl, _, _, hb⟩
    exact ⟨_, by unfold aV; rw [h], hb⟩
theorem c_SCut (s sep : ByteArray) (w : World) (hE : Env w) (hs : s.size ≤ 2097152) : Calls Tryd.prog 31 #[.string s, .string sep] w (Ret w (.tuple #[.string (bs (Lib.cut s.data.toList sep.data.toList).1), .string (bs (Lib.cut s.data.toList sep.data.toList).2.1), .bool (Lib.cut s.data.toList sep.data.toList).2.2])) := by
  obtain ⟨⟨m, hm⟩, _⟩ := hE
  refine (Any.strings_Cut L_cut s sep m w (by omega) hm).mono ?_
  rintro r w' ⟨rfl, n, rfl⟩
  exact ⟨rfl, below_drewN (Below.refl _ _) n⟩
end Go.Proofs.YtncpnjnmljobgaaDoor
