/- bureaulaw32.ShellPrints returns true for every command: condition: what it reads is of bulk at most 1048576; the library's listed variables are tied to the program's text. -/
import Derived.Test.YtkkildkleleppaaGreatDoorJ07
import Derived.Test.YtkkildkleleppaaGreatDoorJ50
import Derived.Test.YtkkildkleleppaaGreatDoorJ51
namespace Go.Proofs.YtkkildkleleppaaGreatDoor
open Go.RowKit Go.ChangeShapes Go.WideShapes Go.ChangeAt

theorem laidOutQ : laidOutB Tryz.prog = true := by kernel_rfl
set_option maxRecDepth 100000 in
theorem sprints_contract (H : Type) (enc : TypeId × Value → H) (W : World) (base : Nat) (args : Array Value) (ds gs : List (DataW H)) (before : List MemPlace)
    (hval : ∀ (j : Nat) t v, Tryz.f6.params[j]? = some t → args[j]? = some v → Value.okWide Tryz.prog W .any base t v)
    (hW : DataW.Whole enc Tryz.prog Tryz.f6.params.toList Rows.shellPrintsSpec.vars false W args.toList ds gs before)
    (hk : Rows.uptoSmall H (ds ++ gs) = true) (hL : laidMetH Tryz.prog listed W) (hS : W.ShapedOpen Tryz.prog) :
    Calls Tryz.prog 6 args W fun e W' => ∃ v, e = .returned v ∧ Rows.shellPrintsSpec.post enc Tryz.prog Tryz.f6 false true false false W args v W' := by
  have hW' := hW
  have hlt := fun p hp => hW.lt p hp
  obtain ⟨p, q, hA0, hV, rfl, hfz, hnd⟩ := hW
  have hA : DataW.TrodAll enc Tryz.prog W 0 (fun _ => true) true Tryz.f6.params.toList args.toList ds p := hA0
  rw [Tryz.params6] at hA hval
  obtain ⟨v0, vs0, d0, ds0, p0, q0, hargs, rfl, rfl, h0, r0⟩ := trodAll_cons hA
  obtain ⟨rfl, rfl, rfl⟩ := trodAll_nil r0
  obtain rfl : args = #[v0] := by cases args; simp_all
  obtain ⟨rfl, rfl⟩ := trodVars_none hV
  obtain ⟨cs0, hv0, -⟩ := okWide_struct Tryz.underlying47 (hval 0 47 v0 rfl rfl)
  clear hA0 hval
  simp only [List.append_nil] at hW' hlt hk
  have hb := bulk_all hk
  simp only [Rows.uptoBulkAll] at hb
  have h0' := h0
  obtain ⟨fuel, hf⟩ := h0
  obtain ⟨c, hic, hfc, ht⟩ := open_cmd ⟨cs0, hv0⟩ hf (by omega)
  refine (prints_any v0 c hfc ht W (env_of hL hS) hic).mono fun e W' ⟨he, hbl⟩ => ?_
  subst he
  exact ⟨_, rfl, post_of_below (pa := p0) (pv := []) hW' (fun _ _ _ => trodAll_cons_mk (shut_bool Tryz.underlying4 _) trodAll_mk0)
    (fun sp hsp => by
      have h1 := WideElems.Trod_stays (sp' := sp) laidOutQ (by kernel_rfl) (of_decide_eq_true (by kernel_rfl)) h0' (fun x hx => hbl.same (hlt x hx)) (fun x hx => hsp x hx)
      rw [Tryz.params6]
      have h2 := trodAll_cons_mk h1 (trodAll_mk0 (enc := enc) (P := Tryz.prog) (w := W') (base := 0) (spare := sp) (held := true))
      rw [List.append_nil] at h2
      exact h2)
    (fun _ _ => rfl) (by simp) hbl (ok_one (by kernel_rfl) rfl (okWide_bool_mk Tryz.underlying4 _))⟩

theorem sprints_reads (os : Os) {H : Type} (enc : TypeId × Value → H) : ∃ places, DataW.whole enc Tryz.prog ((laidW os).forCall (fun _ _ => 0) ⟨#[], #[.agg #[.int .i64 0, .int .i64 0, .int .i64 0, .int .i64 0, .int .i64 0, .string ⟨#[]⟩, .slice none 0 0, .int .i64 0, .bool false, .slice none 0 0, .int .i64 0, .slice none 0 0]], []⟩).memory Tryz.f6.params.toList Rows.shellPrintsSpec.vars false #[Value.agg #[.int .i64 0, .int .i64 0, .int .i64 0, .int .i64 0, .int .i64 0, .string ⟨#[]⟩, .slice none 0 0, .int .i64 0, .bool false, .slice none 0 0, .int .i64 0, .slice none 0 0]].toList 8 = some ([.agg [.lit (.int .i64 0), .agg [.lit (.int .i64 0), .agg [.lit (.int .i64 0), .lit (.int .i64 0), .lit (.int .i64 0), .lit (.string []), .nil], .lit (.int .i64 0), .lit (.bool false), .nil], .lit (.int .i64 0), .nil]], [], places) :=
  ⟨[], by kernel_rfl⟩

set_option maxRecDepth 100000 in
theorem sprints_lifted (os : Os) (started : os.Started) (H : Type) (enc : TypeId × Value → H) (F : Stop.Interp) :
    ReturnsInHanded {} Tryz.checked os 6 .any ((Rows.OpenSpec.upto Rows.shellPrintsSpec).preRow enc Tryz.prog Tryz.f6 Rows.shellPrintsUptoRow.domain false Rows.shellPrintsUptoRow.laid) (((Rows.OpenSpec.upto Rows.shellPrintsSpec).at F).post enc Tryz.prog Tryz.f6 false true false false) := by
  obtain ⟨places, hx⟩ := sprints_reads os enc
  refine returnsInHanded_of_row (C := Tryz.checked) (s := Rows.OpenSpec.upto Rows.shellPrintsSpec) own0 started (by kernel_rfl) Tryz.func6
    (witness_row_atRef (enc := enc) (C := Tryz.checked) false (laidW os) #[.agg #[.int .i64 0, .int .i64 0, .int .i64 0, .int .i64 0, .int .i64 0, .string ⟨#[]⟩, .slice none 0 0, .int .i64 0, .bool false, .slice none 0 0, .int .i64 0, .slice none 0 0]] rfl (laidW_vars os _) (laidW_rest os _) (by kernel_rfl)
      (OpenSpec.preRow_of_cond 8 hx (by kernel_rfl) (fun k hk => by cases hk; kernel_rfl) (by kernel_rfl) (laidW_met os _))) ?_
  intro W base args ds gs before hval hW _ hcond _ hL hS _
  exact sprints_contract H enc W base args ds gs before hval hW (hcond _ rfl) hL hS

theorem sprints_said : Rows.ShellPrintsUptoSaid :=
  OpenClaim.holds_of_cond 6 Tryz.f6 rfl rfl rfl rfl rfl rfl rfl ⟨rfl, rfl, rfl, rfl, rfl⟩ rfl rfl rfl rfl rfl (by kernel_rfl) Tryz.func6 (by kernel_rfl)
    (of_decide_eq_true (by kernel_rfl)) (by unfold Func.isWrapper; first | (rw [if_pos (by decide +kernel)]; kernel_rfl) | (rw [if_neg (by decide +kernel)]; exact ⟨rfl, rfl⟩))
    (fun os started H enc _ F => by rw [OpenClaim.pre_eq_preRow]; exact sprints_lifted os started H enc F)

theorem sprints_plain (f : FuncId) (fn : Func) (hf : Tryz.pinned.checked.prog.funcNamed "bureau/bureaulaw32.ShellPrints" = some f) (hfn : Tryz.pinned.checked.prog.funcs[f]? = some fn) :
    true = Tryz.pinned.checked.prog.looks [] ∧ ∀ (j : Nat) t, fn.params[j]? = some t → Tryz.pinned.checked.prog.wantsStandIn t = false := by
  obtain rfl : f = 6 := Option.some.inj ((show Tryz.prog.funcNamed "bureau/bureaulaw32.ShellPrints" = some 6 by kernel_rfl).symm.trans hf) |>.symm
  obtain rfl : fn = Tryz.f6 := (Option.some.inj (Tryz.func6.symm.trans hfn)).symm
  refine ⟨by kernel_rfl, fun j t ht => ?_⟩
  rw [Tryz.params6] at ht
  obtain rfl : t = 47 := by simpa using Array.mem_of_getElem? ht
  exact (show Tryz.prog.wantsStandIn 47 = false by kernel_rfl)

/-- The tied card of ShellPrints, where what it reads is of bulk at most 1048576. -/
theorem shellPrints_card : Rows.ShellPrintsUptoCardSaid :=
  Claim7.holds_tied_plain_at .later [] _ _ _ _ sprints_said (fun _ h => by cases h) (by kernel_rfl) (fun _ h => by cases h) shellPrintsUpto_row_tie rfl ⟨rfl, rfl⟩ (by kernel_rfl) rfl sprints_plain (by kernel_rfl)
#print axioms shellPrints_card
end Go.Proofs.YtkkildkleleppaaGreatDoor
