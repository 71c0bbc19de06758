/-
 Texts of this proof, put together (VxZ): each part's first words say what it holds. Conditions: as each part says.
-/
import Derived.Test.YtkbedajbbakihaaGreatDoorVb
import Derived.Test.YtkbedajbbakihaaGreatDoorYo
import Derived.Test.YtkbedajbbakihaaGreatDoorYd
/-
 ScriptReads, walked. Conditions: the listed variables read as laid.
-/
namespace Go.Proofs.YtkbedajbbakihaaGreatDoor
open Go.RowKit
set_option linter.unusedSimpArgs false
set_option linter.unusedVariables false

theorem refParse_is (s : ByteArray) (w : World) : Calls Tryz.prog 18 #[.string s] w (RPE (parseP s.data.toList) w) := refParse_of (fun v ws hne w h hsm hlb => refReq_is v ws hne w h hsm hlb) s w
/-- what a text's reading holds -/
def pS (r : Except (Nat × Int) Scr) : Scr := match r with
 | .error _ => ([], [])
 | .ok s => s
def pNo (r : Except (Nat × Int) Scr) : Int := match r with
 | .error x => (x.1 : Int)
 | .ok _ => 0
def pCo (r : Except (Nat × Int) Scr) : Int := match r with
 | .error x => x.2
 | .ok _ => 0
/-- how Parse ends, in one form -/
def PFl (st : Scr) (n c : Int) (w : World) (e : Ending) (w' : World) : Prop := Later w w' ∧ ∃ ao ca bo cb, e = .returned (.tuple #[.agg #[.slice ao st.1.length ca, .slice bo st.2.length cb], .int .i64 n, .int .i64 c]) ∧ EntsAt w' (.slice ao st.1.length ca) st.1 ∧ NumsAt w' (.slice bo st.2.length cb) st.2
theorem none_ents (w : World) : EntsAt w (.slice none 0 0) [] := EntsAt.of_owns (base := 0) (World.ownsRow_nil _ _ _ _)
theorem none_nums (w : World) : NumsAt w (.slice none 0 0) [] := NumsAt.of_owns (base := 0) (World.ownsRow_nil _ _ _ _)
theorem Parse_fl (l : List UInt8) (w : World) (hw : Laid w) : Calls Tryz.prog 17 #[strV l] w (PFl (pS (parseP l)) (pNo (parseP l)) (pCo (parseP l)) w) := by
 cases h : parseP l with
 | error x =>
  refine (Parse_err (n := x.1) (c := x.2) h w hw).mono ?_
  rintro e w' ⟨rfl, h2⟩
  exact ⟨h2, none, 0, none, 0, rfl, none_ents w', none_nums w'⟩
 | ok s =>
  exact Parse_ok h w hw
theorem refParse_fl (s : ByteArray) (w : World) : Calls Tryz.prog 18 #[.string s] w (PFl (pS (parseP s.data.toList)) (pNo (parseP s.data.toList)) (pCo (parseP s.data.toList)) w) := by
 refine (refParse_is s w).mono ?_
 cases h : parseP s.data.toList with
 | error x =>
  rintro e w' ⟨h2, rfl⟩
  exact ⟨h2, none, 0, none, 0, rfl, none_ents w', none_nums w'⟩
 | ok s =>
  rintro e w' ⟨h2, a, c, b, d, rfl, hE, hP⟩
  exact ⟨h2, a, c, b, d, rfl, hE, hP⟩
theorem pS_small (l : List UInt8) : (pS (parseP l)).1.length ≤ 4096 ∧ (pS (parseP l)).2.length ≤ 65536 ∧ ∀ e ∈ (pS (parseP l)).1, (Lit.int .i64 e.1).wf = true ∧ e.2.wf := by
 cases h : parseP l with
 | error x => exact ⟨Nat.zero_le _, Nat.zero_le _, fun e he => by cases he⟩
 | ok s =>
  have hb := big_le (s := s) (by rw [parse_big h]; simp)
  refine ⟨hb.1, hb.2, fun e he => ⟨?_, (parse_fit h e he).2.wf⟩⟩
  have := (parse_fit h e he).1
  unfold inI at this
  obtain ⟨h1, h2⟩ := this
  simp only [Lit.wf]
  go_wf
end Go.Proofs.YtkbedajbbakihaaGreatDoor
