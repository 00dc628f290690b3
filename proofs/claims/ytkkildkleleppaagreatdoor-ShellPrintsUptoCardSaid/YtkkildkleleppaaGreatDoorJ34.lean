/- The shell's sameness of commands. Verbs: what a verb's two functions do. -/
import Derived.Test.YtkkildkleleppaaGreatDoorJ32
import Derived.Test.YtkkildkleleppaaGreatDoorJ33
import Derived.Test.YtkkildkleleppaaGreatDoorJ29
import Derived.Test.YtkkildkleleppaaGreatDoorJ27
import Derived.Laws.EntriesVeiled
namespace Go.Proofs.YtkkildkleleppaaGreatDoor
open Go.RowKit

theorem ssame_any (u v : Value) (a b : C) (la : LenC a) (lb : LenC b) (w : World) (h : IsC w u a) (h' : IsC w v b) : Calls Tryz.prog 53 #[u, v] w (Ret w (.bool (sameC a b))) := by
  cases h1 : ((a.k == b.k) && (a.conn == b.conn) && sameTs a.told b.told) with
  | false => exact ssame_A u v a b h1 la lb w h h'
  | true =>
    simp only [Bool.and_eq_true] at h1
    obtain ⟨⟨e1, e2⟩, e3⟩ := h1
    cases h2 : ((a.ak == b.ak) && (a.n == b.n) && (a.log == b.log)) with
    | false => exact ssame_B u v a b e1 e2 e3 h2 la lb w h h'
    | true =>
      simp only [Bool.and_eq_true] at h2
      obtain ⟨⟨e4, e5⟩, e6⟩ := h2
      cases h3 : (sameIs a.ch b.ch && (a.ek == b.ek) && (a.ec == b.ec)) with
      | false => exact ssame_C u v a b e1 e2 e3 e4 e5 e6 h3 la lb w h h'
      | true =>
        simp only [Bool.and_eq_true] at h3
        obtain ⟨⟨e7, e8⟩, e9⟩ := h3
        exact ssame_D u v a b e1 e2 e3 e4 e5 e6 e7 e8 e9 la lb w h h'
end Go.Proofs.YtkkildkleleppaaGreatDoor
namespace Go.Proofs.YtkkildkleleppaaGreatDoor
open Go.RowKit

def Ent (K : FuncId) : Prop := ∀ (args : Array Value) (w : World), (callFunc K args).run Tryz.prog w = .ok (.enter K args) w
theorem ent_of {f : FuncId} {fn : Func} {c : Code} (hf : Tryz.prog.funcs[f]? = some fn) (hname : (fn.name == "runtime.NumGoroutine") = false) (hb : fn.body = some c) : Ent f := by
  intro args w
  have h1 : fn.name ≠ "runtime.NumGoroutine" := by simpa using hname
  simp [callFunc, hf, h1, hb, mark]
theorem ent_some {f : FuncId} (h : (Tryz.prog.funcs[f]?).any (fun fn => fn.body.isSome && !(fn.name == "runtime.NumGoroutine")) = true) : Ent f := by
  cases hf : Tryz.prog.funcs[f]? with
  | none => rw [hf] at h; cases h
  | some fn =>
    rw [hf] at h
    simp only [Option.any_some, Bool.and_eq_true, Bool.not_eq_true'] at h
    obtain ⟨c, hc⟩ := Option.isSome_iff_exists.1 h.1
    exact ent_of hf h.2 hc

/-- A verb's two functions, in every world behind w. -/
structure VerbP (w : World) (i : Nat) (K : FuncId) (cap : Array Value) (K' : FuncId) (cap' : Array Value) : Prop where
  ent : Ent K
  ent' : Ent K'
  reads : ∀ (W : World) (b : Nat) (s : St), Below w.heap.size w W → w.heap.size ≤ b → IsQ W b s → s.1.length ≤ 100000000 → Calls Tryz.prog K (#[.pointer (some ⟨b, 0, none⟩)] ++ cap) W (VerbE b W (verbR i s))
  writes : ∀ (W : World) (v : Value) (c : C), Below w.heap.size w W → FitC c → IsC W v c → Calls Tryz.prog K' (#[v] ++ cap') W (Ret W (.tuple #[.string ⟨(verbT i c).1.toArray⟩, .bool (verbT i c).2]))
theorem VerbP.below {w w' : World} {i : Nat} {K : FuncId} {cap : Array Value} {K' : FuncId} {cap' : Array Value} (h : VerbP w i K cap K' cap') (hb : Below w.heap.size w w') : VerbP w' i K cap K' cap' :=
  ⟨h.ent, h.ent', fun W b s hW hl => h.reads W b s (hb.trans (hW.mono hb.size)) (Nat.le_trans hb.size hl), fun W v c hW => h.writes W v c (hb.trans (hW.mono hb.size))⟩
/-- A verb is made. -/
def MadeV (i : Nat) (w : World) (e : Ending) (w' : World) : Prop :=
  ∃ K cap K' cap', e = .returned (.agg #[.string ⟨(verbW i).toArray⟩, .func (.func K) #[] cap, .func (.func K') #[] cap']) ∧ VerbP w' i K cap K' cap' ∧ Below w.heap.size w w'

theorem verbR_ev {i : Nat} (hi : i ≤ 8) (s : St) : verbR i s = words (eventR (evKind i) (evSlot i) (evTail i) s) := by
  match i, hi with
  | 0, _ | 1, _ | 2, _ | 3, _ | 4, _ | 5, _ | 6, _ | 7, _ | 8, _ => rfl
theorem verbT_ev {i : Nat} (hi : i ≤ 8) (c : C) : verbT i c = eventW (evKind i) (evSlot i) (evTail i) c := by
  match i, hi with
  | 0, _ | 1, _ | 2, _ | 3, _ | 4, _ | 5, _ | 6, _ | 7, _ | 8, _ => rfl

set_option maxRecDepth 100000 in
set_option maxHeartbeats 2000000 in
theorem eventVerb_any (i : Nat) (hi : i ≤ 8) (R R' : FuncId) (hR : ReadsTail R (evTail i)) (hW : WritesTail R' (evTail i)) (e1 : Ent R) (e2 : Ent R') (w : World) (hE : Env w) :
    Calls Tryz.prog 88 #[.string ⟨(verbW i).toArray⟩, .int .i64 (evKind i), .bool (evSlot i), .func (.func R) #[] #[], .func (.func R') #[] #[]] w (MadeV i w) := by
  have hmf : ∀ (fn : Fn) (first cap : Array Value) (w : World), (Instr.makeFunc fn first cap).run Tryz.prog w = .ok (.func fn first cap) w := fun _ _ _ _ => rfl
  have HR := Lib.hid (verbR_ev hi)
  have HT := Lib.hid (verbT_ev hi)
  have E1 := Lib.hid e1
  have E2 := Lib.hid e2
  clear hi e1 e2
  generalize evKind i = ek at HR HT
  generalize evSlot i = sl at HR HT
  generalize evTail i = t at HR HT hR hW
  go_enter Tryz.func88, Tryz.ntmps88
  go_wp2
  refine bodyPost_ret (by simp [results, Tryz.results88, go_sem]; try rfl) rfl ?_
  generalize hX : ((((w.alloc (.cells #[.int .i64 ek] 39)).alloc (.cells #[.bool sl] 4)).alloc (.cells #[.func (.func R) #[] #[]] 152)).alloc (.cells #[.func (.func R') #[] #[]] 153)) = W4
  have k1 : W4.cell? ⟨w.heap.size, 0, none⟩ = some (.int .i64 ek) := by rw [← hX]; simp [go_sem]
  have k2 : W4.cell? ⟨w.heap.size + 1, 0, none⟩ = some (.bool sl) := by rw [← hX]; simp [go_sem]
  have k3 : W4.cell? ⟨w.heap.size + 1 + 1, 0, none⟩ = some (.func (.func R) #[] #[]) := by rw [← hX]; simp [go_sem]
  have k4 : W4.cell? ⟨w.heap.size + 1 + 1 + 1, 0, none⟩ = some (.func (.func R') #[] #[]) := by rw [← hX]; simp [go_sem]
  have hb4 : Below w.heap.size w W4 := by rw [← hX]; go_grown
  have hsz : W4.heap.size = w.heap.size + 1 + 1 + 1 + 1 := by rw [← hX]; simp
  clear hX
  have hb5 : Below w.heap.size w (W4.alloc (.cells #[.string ⟨(verbW i).toArray⟩, .func (.func 126) #[] #[.pointer (some ⟨w.heap.size, 0, none⟩), .pointer (some ⟨w.heap.size + 1, 0, none⟩), .pointer (some ⟨w.heap.size + 1 + 1, 0, none⟩)],
    .func (.func 128) #[] #[.pointer (some ⟨w.heap.size + 1, 0, none⟩), .pointer (some ⟨w.heap.size + 1 + 1 + 1, 0, none⟩), .pointer (some ⟨w.heap.size, 0, none⟩)]] 105)) := hb4.alloc hb4.size _
  refine ⟨_, _, _, _, rfl, ⟨ent_some (by kernel_rfl), ent_some (by kernel_rfl), ?_, ?_⟩, hb5⟩
  · intro W b s hWb hl hq hs
    have hk : ∀ {p v}, W4.cell? p = some v → W.cell? p = some v := fun h => (hWb.cell (lt_of_cell (cell_alloc _ h))).trans (cell_alloc _ h)
    have hz : w.heap.size + 1 + 1 + 1 + 1 < b := by simp at hl; omega
    rw [HR.out]
    exact evread_any ek sl R t hR E1.out _ _ _ b s hs W ⟨w, hE, hb5.trans (hWb.mono hb5.size), by omega⟩ hq (hk k1) (hk k2) (hk k3) (by omega) (by omega) (by omega)
  · intro W v c hWb hf hv
    have hk : ∀ {p v}, W4.cell? p = some v → W.cell? p = some v := fun h => (hWb.cell (lt_of_cell (cell_alloc _ h))).trans (cell_alloc _ h)
    rw [HT.out]
    exact evwrite_any ek sl R' t hW E2.out _ _ _ c v W hf (hE.below (hb5.trans (hWb.mono hb5.size))) hv (hk k1) (hk k2) (hk k4)

set_option maxRecDepth 100000 in
set_option maxHeartbeats 2000000 in
theorem plain_any (i : Nat) (k ak ek : Int) (hR : ∀ s, verbR i s = .ok (C.plain k ak ek, s.2)) (hT : ∀ c, verbT i c = plainW k ak ek c) (w : World) :
    Calls Tryz.prog 94 #[.string ⟨(verbW i).toArray⟩, .agg #[.int .i64 k, .int .i64 ak, .int .i64 ek, .int .i64 0, .int .i64 0, .string ⟨#[]⟩, .slice none 0 0, .int .i64 0, .bool false, .slice none 0 0, .int .i64 0, .slice none 0 0]] w (MadeV i w) := by
  have hmf : ∀ (fn : Fn) (first cap : Array Value) (w : World), (Instr.makeFunc fn first cap).run Tryz.prog w = .ok (.func fn first cap) w := fun _ _ _ _ => rfl
  have HR := Lib.hid hR
  have HT := Lib.hid hT
  clear hR hT
  go_enter Tryz.func94, Tryz.ntmps94
  go_wp2
  refine bodyPost_ret (by simp [results, Tryz.results94, go_sem]; try rfl) rfl ?_
  generalize hX : w.alloc (.cells #[.int .i64 k, .int .i64 ak, .int .i64 ek, .int .i64 0, .int .i64 0, .string ⟨#[]⟩, .slice none 0 0, .int .i64 0, .bool false, .slice none 0 0, .int .i64 0, .slice none 0 0] 47) = W4
  have hp : PBox W4 w.heap.size k ak ek := by rw [← hX]; exact Blk.new _ _ _
  have hb4 : Below w.heap.size w W4 := by rw [← hX]; exact below_alloc _ _
  clear hX
  have hb5 : Below w.heap.size w (W4.alloc (.cells #[.string ⟨(verbW i).toArray⟩, .func (.func 130) #[] #[.pointer (some ⟨w.heap.size, 0, none⟩)], .func (.func 131) #[] #[.pointer (some ⟨w.heap.size, 0, none⟩)]] 105)) := hb4.alloc hb4.size _
  refine ⟨_, _, _, _, rfl, ⟨ent_some (by kernel_rfl), ent_some (by kernel_rfl), ?_, ?_⟩, hb5⟩
  · intro W b s hWb hl hq hs
    rw [HR.out]
    exact plainread_any k ak ek _ b s hs W hq ((hp.alloc _).below hWb)
  · intro W v c hWb hf hv
    rw [HT.out]
    exact plainwrite_any k ak ek _ c v W hv ((hp.alloc _).below hWb)

set_option maxRecDepth 100000 in
set_option maxHeartbeats 2000000 in
theorem counted_any (i : Nat) (ak : Int) (hR : ∀ s, verbR i s = words (countR ak s)) (hT : ∀ c, verbT i c = countW ak c) (w : World) (hE : Env w) :
    Calls Tryz.prog 97 #[.string ⟨(verbW i).toArray⟩, .int .i64 ak] w (MadeV i w) := by
  have hmf : ∀ (fn : Fn) (first cap : Array Value) (w : World), (Instr.makeFunc fn first cap).run Tryz.prog w = .ok (.func fn first cap) w := fun _ _ _ _ => rfl
  have HR := Lib.hid hR
  have HT := Lib.hid hT
  clear hR hT
  go_enter Tryz.func97, Tryz.ntmps97
  go_wp2
  refine bodyPost_ret (by simp [results, Tryz.results97, go_sem]; try rfl) rfl ?_
  generalize hX : w.alloc (.cells #[.int .i64 ak] 38) = W4
  have hp : W4.cell? ⟨w.heap.size, 0, none⟩ = some (.int .i64 ak) := by rw [← hX]; simp [go_sem]
  have hb4 : Below w.heap.size w W4 := by rw [← hX]; exact below_alloc _ _
  have hsz : W4.heap.size = w.heap.size + 1 := by rw [← hX]; simp
  clear hX
  have hb5 : Below w.heap.size w (W4.alloc (.cells #[.string ⟨(verbW i).toArray⟩, .func (.func 132) #[] #[.pointer (some ⟨w.heap.size, 0, none⟩)], .func (.func 133) #[] #[.pointer (some ⟨w.heap.size, 0, none⟩)]] 105)) := hb4.alloc hb4.size _
  refine ⟨_, _, _, _, rfl, ⟨ent_some (by kernel_rfl), ent_some (by kernel_rfl), ?_, ?_⟩, hb5⟩
  · intro W b s hWb hl hq hs
    have hz : w.heap.size + 1 < b := by simp at hl; omega
    rw [HR.out]
    exact countread_any ak _ b s hs W ⟨w, hE, hb5.trans (hWb.mono hb5.size), by omega⟩ hq ((hWb.cell (lt_of_cell (cell_alloc _ hp))).trans (cell_alloc _ hp)) (by omega)
  · intro W v c hWb hf hv
    rw [HT.out]
    exact countwrite_any ak _ c v W hf.n (hE.below (hb5.trans (hWb.mono hb5.size))) hv ((hWb.cell (lt_of_cell (cell_alloc _ hp))).trans (cell_alloc _ hp))
theorem restart_verb (w : World) (hE : Env w) : VerbP w 13 98 #[] 99 #[] :=
  ⟨ent_some (by kernel_rfl), ent_some (by kernel_rfl), fun W b s hWb hl hq hs => restart_any b s hs W ⟨w, hE, hWb, hl⟩ hq, fun W v c hWb hf hv => restartwrite_any c v W hf (hE.below hWb) hv⟩
theorem load_verb (w : World) (hE : Env w) : VerbP w 16 100 #[] 101 #[] :=
  ⟨ent_some (by kernel_rfl), ent_some (by kernel_rfl), fun W b s hWb hl hq hs => load_any b s hs W ⟨w, hE, hWb, hl⟩ hq, fun W v c hWb hf hv => loadwrite_any c v W hf (hE.below hWb) hv⟩
end Go.Proofs.YtkkildkleleppaaGreatDoor
