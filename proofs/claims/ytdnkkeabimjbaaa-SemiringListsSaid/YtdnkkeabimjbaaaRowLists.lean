/- SemiringLists: for every input the law returns true, and its arguments read as they read. No condition. -/
import Derived.Test.YtdnkkeabimjbaaaLists
import Derived.Test.YtdnkkeabimjbaaaClose
import Derived.Test.YtdnkkeabimjbaaaOpen
namespace Go.Proofs.Ytdnkkeabimjbaaa.semiringLists
open Go.ChangeShapes Go.WideShapes Go.ChangeAt Go.RowKit Go.Joins

theorem own : ownKnob Try.prog.godebug = none := by kernel_rfl
theorem laidOut : laidOutB Try.prog = true := by kernel_rfl
theorem cells3 : Try.prog.cellsOf 3 = 1 := by kernel_rfl
theorem cells23 : Try.prog.cellsOf 23 = 2 := by kernel_rfl

set_option maxRecDepth 100000 in
theorem lifted (os : Os) (started : os.Started) (H : Type) (enc : TypeId × Value → H) :
    ReturnsInHanded {} Try.checked os 4 .any (Rows.semiringListsSpec.pre6 enc Try.prog Try.f4 Rows.semiringListsRow.domain false) (Rows.semiringListsSpec.post enc Try.prog Try.f4 false true false false) := by
  refine returnsInHanded_of_change (C := Try.checked) own started (by kernel_rfl) Try.func4
    (ChangeSpec.witness6 (enc := enc) (C := Try.checked) false ⟨#[], #[.slice none 0 0, .slice none 0 0], []⟩ 8 (by kernel_rfl) (by kernel_rfl) (by kernel_rfl) (by kernel_rfl)) ?_
  intro W base args ds gs before hval0 hW hcnd _
  have hval : ∀ (j : Nat) t v, Try.f4.params[j]? = some t → args[j]? = some v → Value.okWide Try.prog W .any base t v := hval0
  have hW' := hW
  obtain ⟨p, q, hA0, hV, rfl, hfz, hnd⟩ := hW
  have hA : DataW.TrodAll enc Try.prog W 0 (fun _ => true) true Try.f4.params.toList args.toList ds p := hA0
  have hA1 := hA
  rw [Try.params4] at hA hval
  obtain ⟨v0, vs0, d0, ds0, p0, q0, hargs, rfl, rfl, h0, r0⟩ := trodAll_cons hA
  obtain ⟨v1, vs1, d1, ds1, p1, q1, rfl, rfl, rfl, h1, r1⟩ := trodAll_cons r0
  obtain ⟨rfl, rfl, rfl⟩ := trodAll_nil r1
  obtain rfl : args = #[v0, v1] := by cases args; simp_all
  obtain ⟨rfl, rfl⟩ := trodVars_none hV
  obtain ⟨A0, c0, x0, rfl, hn0, hr0⟩ := open_intRow Try.underlying31 Try.underlying3 cells3 (hval 0 31 v0 rfl rfl) h0
  obtain ⟨A1, c1, x1, rfl, hn1, hr1⟩ := open_valRow Try.underlying32 Try.underlying23 Try.underlying3 ⟨rfl, rfl⟩ ⟨rfl, rfl⟩ cells3 cells23 (hval 1 32 v1 rfl rfl) h1
  clear hA0 hval0
  refine (lists_any W A0 A1 c0 c1 x0 x1 hr0 hr1 hn0 hn1).mono fun e W' ⟨he, hb⟩ => ?_
  subst he
  exact ⟨_, rfl, law_post Try.underlying4 (by kernel_rfl) laidOut (by kernel_rfl) rfl hW' hA1 rfl hb⟩

theorem over : Rows.semiringListsRow.holds Try.pinned (OpenSpec.ofChange Rows.semiringListsSpec) :=
  OpenClaim.holds_of_wide 4 Try.f4 rfl rfl rfl rfl rfl rfl rfl ⟨rfl, rfl, rfl, rfl, rfl⟩ rfl rfl rfl rfl rfl (by kernel_rfl) Try.func4 (by kernel_rfl)
    (of_decide_eq_true (by kernel_rfl)) (by unfold Func.isWrapper; first | (rw [if_pos (by decide +kernel)]; kernel_rfl) | (rw [if_neg (by decide +kernel)]; exact ⟨rfl, rfl⟩))
    (fun os started H enc _ => lifted os started H enc)

theorem proved : Rows.SemiringListsSaid := over
#print axioms proved
end Go.Proofs.Ytdnkkeabimjbaaa.semiringLists
