/- bureaulaw31.DumpRound returns true for every list of things told and every string: condition: what it reads is of bulk at most 1048576; the library's listed variables are tied to the program's text. -/
import Derived.Test.YtkkildkleleppaaDoorEnv
import Derived.Test.YtkkildkleleppaaDoorRound
import Derived.Test.YtkkildkleleppaaDoorOpen2
import Derived.ChangeMaps5
namespace Go.Proofs.YtkkildkleleppaaDoor
open Go.RowKit Go.ChangeShapes Go.WideShapes Go.ChangeAt

theorem laidOut0 : laidOutB Tryd.prog = true := by kernel_rfl
set_option maxRecDepth 100000 in
theorem round_contract (H : Type) (enc : TypeId × Value → H) (W : World) (base : Nat) (args : Array Value) (ds gs : List (DataW H)) (before : List MemPlace)
    (hval : ∀ (j : Nat) t v, Tryd.f3.params[j]? = some t → args[j]? = some v → Value.okWide Tryd.prog W .any base t v)
    (hW : DataW.Whole enc Tryd.prog Tryd.f3.params.toList Rows.dumpRoundSpec.vars false W args.toList ds gs before)
    (hk : Rows.uptoSmall H (ds ++ gs) = true) (hL : laidMetH Tryd.prog listed W) (hS : W.ShapedOpen Tryd.prog) :
    Calls Tryd.prog 3 args W fun e W' => ∃ v, e = .returned v ∧ Rows.dumpRoundSpec.post enc Tryd.prog Tryd.f3 false true false false W args v W' := by
  have hW' := hW
  have hlt := fun p hp => hW.lt p hp
  obtain ⟨p, q, hA0, hV, rfl, hfz, hnd⟩ := hW
  have hA : DataW.TrodAll enc Tryd.prog W 0 (fun _ => true) true Tryd.f3.params.toList args.toList ds p := hA0
  rw [Tryd.params3] at hA hval
  obtain ⟨v0, vs0, d0, ds0, p0, q0, hargs, rfl, rfl, h0, r0⟩ := trodAll_cons hA
  obtain ⟨v1, vs1, d1, ds1, p1, q1, hvs, rfl, rfl, hs1, r1⟩ := trodAll_cons r0
  obtain ⟨rfl, rfl, rfl⟩ := trodAll_nil r1
  subst hvs
  obtain rfl : args = #[v0, v1] := by cases args; simp_all
  obtain ⟨rfl, rfl⟩ := trodVars_none hV
  obtain ⟨a0, n0, c0, rfl⟩ := okWide_slice Tryd.underlying22 (hval 0 22 v0 rfl rfl)
  obtain ⟨s, rfl, rfl, rfl, hsm⟩ := Go.ChangeMaps.open_string Tryd.underlying9 (hval 1 9 v1 rfl rfl) hs1
  clear hA0 hval
  simp only [List.append_nil] at hW' hlt hk
  have hb := bulk_all hk
  simp only [Rows.uptoBulkAll, Rows.uptoBulk, size_len] at hb
  have h0' := h0
  obtain ⟨fuel, hf⟩ := h0
  obtain ⟨a, n, c, ts, hcs, hn, hc, hts, hfit, hbn, hbp, hfl⟩ := open_told2 hf
  have hcs2 : ([Value.slice a0 n0 c0] : List Value) = [.slice a n c] := by simpa [Value.cells] using hcs
  injection hcs2 with hcs2
  injection hcs2 with e1 e2 e3
  subst e1 e2 e3
  simp only at hbn hbp hfl
  refine (round_any a0 n0 c0 ts hn (by omega) (fun t ht => by have := hbp t ht; omega) hfit (by omega) s (by omega) W (env_of hL hS) hts).mono fun e W' ⟨he, hbl⟩ => ?_
  subst he
  exact ⟨_, rfl, post_of_below (pa := p0) (pv := []) hW' (fun _ _ _ => trodAll_cons_mk (shut_bool Tryd.underlying4 _) trodAll_mk0)
    (fun sp hsp => by
      have h1 := WideElems.Trod_stays (sp' := sp) laidOut0 (by kernel_rfl) (of_decide_eq_true (by kernel_rfl)) h0' (fun x hx => hbl.same (hlt x hx)) (fun x hx => hsp x hx)
      rw [Tryd.params3]
      have h3 : DataW.Trod enc Tryd.prog W' 0 sp true 9 (.string s) (.lit (.string s.data.toList)) [] := Go.ChangeMaps.shut_string Tryd.underlying9 hsm
      have h2 := trodAll_cons_mk h1 (trodAll_cons_mk h3 (trodAll_mk0 (enc := enc) (P := Tryd.prog) (w := W') (base := 0) (spare := sp) (held := true)))
      simp only [List.append_nil] at h2
      exact h2)
    (fun _ _ => rfl) (by simp) hbl (ok_one (by kernel_rfl) rfl (okWide_bool_mk Tryd.underlying4 _))⟩

theorem round_reads (os : Os) {H : Type} (enc : TypeId × Value → H) : ∃ places, DataW.whole enc Tryd.prog ((laidW os).forCall (fun _ _ => 0) ⟨#[], #[.slice none 0 0, .string ⟨#[]⟩], []⟩).memory Tryd.f3.params.toList Rows.dumpRoundSpec.vars false #[Value.slice none 0 0, Value.string ⟨#[]⟩].toList 8 = some ([.nil, .lit (.string [])], [], places) :=
  ⟨[], by kernel_rfl⟩

set_option maxRecDepth 100000 in
theorem round_lifted (os : Os) (started : os.Started) (H : Type) (enc : TypeId × Value → H) (F : Stop.Interp) :
    ReturnsInHanded {} Tryd.checked os 3 .any ((Rows.OpenSpec.upto Rows.dumpRoundSpec).preRow enc Tryd.prog Tryd.f3 Rows.dumpRoundUptoRow.domain false Rows.dumpRoundUptoRow.laid) (((Rows.OpenSpec.upto Rows.dumpRoundSpec).at F).post enc Tryd.prog Tryd.f3 false true false false) := by
  obtain ⟨places, hx⟩ := round_reads os enc
  refine returnsInHanded_of_row (C := Tryd.checked) (s := Rows.OpenSpec.upto Rows.dumpRoundSpec) own0 started (by kernel_rfl) Tryd.func3
    (witness_row_atRef (enc := enc) (C := Tryd.checked) false (laidW os) #[.slice none 0 0, .string ⟨#[]⟩] rfl (laidW_vars os _) (laidW_rest os _) (by kernel_rfl)
      (OpenSpec.preRow_of_cond 8 hx (by kernel_rfl) (fun k hk => by cases hk; kernel_rfl) (by kernel_rfl) (laidW_met os _))) ?_
  intro W base args ds gs before hval hW _ hcond _ hL hS _
  exact round_contract H enc W base args ds gs before hval hW (hcond _ rfl) hL hS

theorem round_said : Rows.DumpRoundUptoSaid :=
  OpenClaim.holds_of_cond 3 Tryd.f3 rfl rfl rfl rfl rfl rfl rfl ⟨rfl, rfl, rfl, rfl, rfl⟩ rfl rfl rfl rfl rfl (by kernel_rfl) Tryd.func3 (by kernel_rfl)
    (of_decide_eq_true (by kernel_rfl)) (by unfold Func.isWrapper; first | (rw [if_pos (by decide +kernel)]; kernel_rfl) | (rw [if_neg (by decide +kernel)]; exact ⟨rfl, rfl⟩))
    (fun os started H enc _ F => by rw [OpenClaim.pre_eq_preRow]; exact round_lifted os started H enc F)

theorem round_plain (f : FuncId) (fn : Func) (hf : Tryd.pinned.checked.prog.funcNamed "bureau/bureaulaw31.DumpRound" = some f) (hfn : Tryd.pinned.checked.prog.funcs[f]? = some fn) :
    true = Tryd.pinned.checked.prog.looks [] ∧ ∀ (j : Nat) t, fn.params[j]? = some t → Tryd.pinned.checked.prog.wantsStandIn t = false := by
  obtain rfl : f = 3 := Option.some.inj ((show Tryd.prog.funcNamed "bureau/bureaulaw31.DumpRound" = some 3 by kernel_rfl).symm.trans hf) |>.symm
  obtain rfl : fn = Tryd.f3 := (Option.some.inj (Tryd.func3.symm.trans hfn)).symm
  refine ⟨by kernel_rfl, fun j t ht => ?_⟩
  rw [Tryd.params3] at ht
  have h2 : t = 22 ∨ t = 9 := by simpa using Array.mem_of_getElem? ht
  rcases h2 with rfl | rfl
  · exact (show Tryd.prog.wantsStandIn 22 = false by kernel_rfl)
  · exact (show Tryd.prog.wantsStandIn 9 = false by kernel_rfl)

/-- The tied card of DumpRound, where what it reads is of bulk at most 1048576. -/
theorem dumpRound_card : Rows.DumpRoundUptoCardSaid :=
  Claim7.holds_tied_plain_at .later [] _ _ _ _ round_said (fun _ h => by cases h) (by kernel_rfl) (fun _ h => by cases h) dumpRoundUpto_row_tie rfl ⟨rfl, rfl⟩ (by kernel_rfl) rfl round_plain (by kernel_rfl)
#print axioms dumpRound_card
end Go.Proofs.YtkkildkleleppaaDoor
