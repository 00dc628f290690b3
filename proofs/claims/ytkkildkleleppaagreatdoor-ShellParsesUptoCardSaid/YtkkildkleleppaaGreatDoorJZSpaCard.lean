/- bureaulaw32.ShellParses returns true for every line: condition: what it reads is of bulk at most 1048576; the library's listed variables are tied to the program's text. -/
import Derived.Test.YtkkildkleleppaaGreatDoorJ07
import Derived.Test.YtkkildkleleppaaGreatDoorJ48
import Derived.ChangeMaps5
namespace Go.Proofs.YtkkildkleleppaaGreatDoor
open Go.RowKit Go.ChangeShapes Go.WideShapes Go.ChangeAt

theorem laidOutP : laidOutB Tryz.prog = true := by kernel_rfl
set_option maxRecDepth 100000 in
theorem sparses_contract (H : Type) (enc : TypeId × Value → H) (W : World) (base : Nat) (args : Array Value) (ds gs : List (DataW H)) (before : List MemPlace)
    (hval : ∀ (j : Nat) t v, Tryz.f5.params[j]? = some t → args[j]? = some v → Value.okWide Tryz.prog W .any base t v)
    (hW : DataW.Whole enc Tryz.prog Tryz.f5.params.toList Rows.shellParsesSpec.vars false W args.toList ds gs before)
    (hk : Rows.uptoSmall H (ds ++ gs) = true) (hL : laidMetH Tryz.prog listed W) (hS : W.ShapedOpen Tryz.prog) :
    Calls Tryz.prog 5 args W fun e W' => ∃ v, e = .returned v ∧ Rows.shellParsesSpec.post enc Tryz.prog Tryz.f5 false true false false W args v W' := by
  have hW' := hW
  have hlt := fun p hp => hW.lt p hp
  obtain ⟨p, q, hA0, hV, rfl, hfz, hnd⟩ := hW
  have hA : DataW.TrodAll enc Tryz.prog W 0 (fun _ => true) true Tryz.f5.params.toList args.toList ds p := hA0
  rw [Tryz.params5] at hA hval
  obtain ⟨v0, vs0, d0, ds0, p0, q0, hargs, rfl, rfl, h0, r0⟩ := trodAll_cons hA
  obtain ⟨rfl, rfl, rfl⟩ := trodAll_nil r0
  obtain rfl : args = #[v0] := by cases args; simp_all
  obtain ⟨rfl, rfl⟩ := trodVars_none hV
  obtain ⟨s, rfl, rfl, rfl, -⟩ := Go.ChangeMaps.open_string Tryz.underlying9 (hval 0 9 v0 rfl rfl) h0
  clear hA0 hval
  simp only [List.append_nil] at hW' hlt hk
  have hb := bulk_all hk
  simp only [Rows.uptoBulkAll, Rows.uptoBulk] at hb
  have hsz : s.size ≤ 1048576 := by rw [size_len] at hb; omega
  have h0' := h0
  refine ((by have h := parses_any s.data.toList (by rw [size_len]; omega) W (env_of hL hS); rw [arr_self] at h; exact h : Calls Tryz.prog 5 #[.string s] W (Ret W (.bool true)))).mono fun e W' ⟨he, hbl⟩ => ?_
  subst he
  exact ⟨_, rfl, post_of_below (pa := []) (pv := []) hW' (fun _ _ _ => trodAll_cons_mk (shut_bool Tryz.underlying4 _) trodAll_mk0)
    (fun sp hsp => by
      have h1 := WideElems.Trod_stays (sp' := sp) laidOutP (by kernel_rfl) (of_decide_eq_true (by kernel_rfl)) h0' (fun x hx => hbl.same (hlt x hx)) (fun x hx => hsp x hx)
      rw [Tryz.params5]
      have h2 := trodAll_cons_mk h1 (trodAll_mk0 (enc := enc) (P := Tryz.prog) (w := W') (base := 0) (spare := sp) (held := true))
      rw [List.append_nil] at h2
      exact h2)
    (fun _ _ => rfl) (by simp) hbl (ok_one (by kernel_rfl) rfl (okWide_bool_mk Tryz.underlying4 _))⟩

theorem sparses_reads (os : Os) {H : Type} (enc : TypeId × Value → H) : ∃ places, DataW.whole enc Tryz.prog ((laidW os).forCall (fun _ _ => 0) ⟨#[], #[.string ⟨#[]⟩], []⟩).memory Tryz.f5.params.toList Rows.shellParsesSpec.vars false #[Value.string ⟨#[]⟩].toList 8 = some ([.lit (.string [])], [], places) :=
  ⟨[], by kernel_rfl⟩

set_option maxRecDepth 100000 in
theorem sparses_lifted (os : Os) (started : os.Started) (H : Type) (enc : TypeId × Value → H) (F : Stop.Interp) :
    ReturnsInHanded {} Tryz.checked os 5 .any ((Rows.OpenSpec.upto Rows.shellParsesSpec).preRow enc Tryz.prog Tryz.f5 Rows.shellParsesUptoRow.domain false Rows.shellParsesUptoRow.laid) (((Rows.OpenSpec.upto Rows.shellParsesSpec).at F).post enc Tryz.prog Tryz.f5 false true false false) := by
  obtain ⟨places, hx⟩ := sparses_reads os enc
  refine returnsInHanded_of_row (C := Tryz.checked) (s := Rows.OpenSpec.upto Rows.shellParsesSpec) own0 started (by kernel_rfl) Tryz.func5
    (witness_row_atRef (enc := enc) (C := Tryz.checked) false (laidW os) #[.string ⟨#[]⟩] rfl (laidW_vars os _) (laidW_rest os _) (by kernel_rfl)
      (OpenSpec.preRow_of_cond 8 hx (by kernel_rfl) (fun k hk => by cases hk; kernel_rfl) (by kernel_rfl) (laidW_met os _))) ?_
  intro W base args ds gs before hval hW _ hcond _ hL hS _
  exact sparses_contract H enc W base args ds gs before hval hW (hcond _ rfl) hL hS

theorem sparses_said : Rows.ShellParsesUptoSaid :=
  OpenClaim.holds_of_cond 5 Tryz.f5 rfl rfl rfl rfl rfl rfl rfl ⟨rfl, rfl, rfl, rfl, rfl⟩ rfl rfl rfl rfl rfl (by kernel_rfl) Tryz.func5 (by kernel_rfl)
    (of_decide_eq_true (by kernel_rfl)) (by unfold Func.isWrapper; first | (rw [if_pos (by decide +kernel)]; kernel_rfl) | (rw [if_neg (by decide +kernel)]; exact ⟨rfl, rfl⟩))
    (fun os started H enc _ F => by rw [OpenClaim.pre_eq_preRow]; exact sparses_lifted os started H enc F)

theorem sparses_plain (f : FuncId) (fn : Func) (hf : Tryz.pinned.checked.prog.funcNamed "bureau/bureaulaw32.ShellParses" = some f) (hfn : Tryz.pinned.checked.prog.funcs[f]? = some fn) :
    true = Tryz.pinned.checked.prog.looks [] ∧ ∀ (j : Nat) t, fn.params[j]? = some t → Tryz.pinned.checked.prog.wantsStandIn t = false := by
  obtain rfl : f = 5 := Option.some.inj ((show Tryz.prog.funcNamed "bureau/bureaulaw32.ShellParses" = some 5 by kernel_rfl).symm.trans hf) |>.symm
  obtain rfl : fn = Tryz.f5 := (Option.some.inj (Tryz.func5.symm.trans hfn)).symm
  refine ⟨by kernel_rfl, fun j t ht => ?_⟩
  rw [Tryz.params5] at ht
  obtain rfl : t = 9 := by simpa using Array.mem_of_getElem? ht
  exact (show Tryz.prog.wantsStandIn 9 = false by kernel_rfl)

/-- The tied card of ShellParses, where what it reads is of bulk at most 1048576. -/
theorem shellParses_card : Rows.ShellParsesUptoCardSaid :=
  Claim7.holds_tied_plain_at .later [] _ _ _ _ sparses_said (fun _ h => by cases h) (by kernel_rfl) (fun _ h => by cases h) shellParsesUpto_row_tie rfl ⟨rfl, rfl⟩ (by kernel_rfl) rfl sparses_plain (by kernel_rfl)
#print axioms shellParses_card
end Go.Proofs.YtkkildkleleppaaGreatDoor
