/- Plain law: the document's reader of dumps (ends, cuts, one part) tells what the program's reader tells. No program in sight. The shell's small texts: numbers, errors: both sides. -/
import Derived.Test.YtkkildkleleppaaGreatDoorJ12
import Derived.Test.YtkkildkleleppaaGreatDoorJ08
import Derived.Test.YtkkildkleleppaaGreatDoorJ06
namespace Go.Proofs.YtkkildkleleppaaGreatDoor

theorem tdivR (a : Int) : Int.tdiv a 10 = a / 10 + if 0 ≤ a ∨ 10 ∣ a then 0 else 1 := by rw [Int.tdiv_eq_ediv]; rfl
theorem stepN_fit {neg : Bool} {n m : Int} {c : UInt8} (h0 : -9223372036854775808 ≤ n) (h1 : n ≤ 9223372036854775807) (h : stepN neg n c = some m) (hs : if neg then n ≤ 0 else 0 ≤ n) :
    -9223372036854775808 ≤ m ∧ m ≤ 9223372036854775807 ∧ (if neg then m ≤ 0 else 0 ≤ m) := by
  unfold stepN at h
  split at h
  · cases h
  · split at h
    · cases h
    · injection h with h
      subst h
      cases neg with
      | true =>
        simp only [if_true, true_and, Bool.true_eq_false, false_and, or_false, Int.not_lt] at *
        rw [tdivR] at *
        omega
      | false =>
        simp only [Bool.false_eq_true, if_false, false_and, true_and, false_or, Int.not_lt] at *
        rw [tdivR] at *
        omega
theorem numGo_fit (neg : Bool) : ∀ (l : List UInt8) (n m : Int), -9223372036854775808 ≤ n → n ≤ 9223372036854775807 → (if neg then n ≤ 0 else 0 ≤ n) → numGo neg n l = some m → -9223372036854775808 ≤ m ∧ m ≤ 9223372036854775807
  | [], n, m, h0, h1, _, h => by simp only [numGo, Option.some.injEq] at h; subst h; exact ⟨h0, h1⟩
  | c :: r, n, m, h0, h1, hs, h => by
    simp only [numGo] at h
    cases hst : stepN neg n c with
    | none => rw [hst] at h; cases h
    | some k =>
      rw [hst] at h
      obtain ⟨a, b, c⟩ := stepN_fit h0 h1 hst hs
      exact numGo_fit neg r k m a b c h
theorem rnum_fit {l : List UInt8} {n : Int} (h : rnum l = some n) : -9223372036854775808 ≤ n ∧ n ≤ 9223372036854775807 := by
  unfold rnum at h
  split at h
  · cases h
  · exact numGo_fit _ _ 0 n (by omega) (by omega) (by split <;> omega) h
theorem rread_fit {l : List UInt8} {v : V} (h : rread l = some v) : v.fit := by
  unfold rread at h
  split at h
  · cases h
  · split at h
    · cases h; exact ⟨by decide, by decide⟩
    · split at h
      · rename_i n hn
        cases h
        exact rnum_fit hn
      · split at h
        · cases h
        · split at h
          · cases h; simp only [V.fit]; omega
          · cases h

open Go.Lib in
theorem numGo_pos : ∀ (u : Nat) (acc : Nat) (r : List UInt8), acc * 10 ^ nDigits u + u ≤ 9223372036854775807 → numGo false acc (decDigits u ++ r) = numGo false ((acc * 10 ^ nDigits u + u : Nat) : Int) r := by
  intro u
  induction u using Nat.strongRecOn with
  | _ u ih =>
    intro acc r h
    by_cases hu : u < 10
    · rw [nDigits_small hu] at h ⊢
      rw [decDigits, dif_pos hu]
      have e : (UInt8.ofNat (48 + u)).toNat = 48 + u := by rw [UInt8.toNat_ofNat']; omega
      simp only [List.cons_append, List.nil_append, numGo, stepN, e, Nat.pow_one, Bool.false_eq_true, false_and, true_and, false_or, if_false] at h ⊢
      rw [if_neg (by omega), if_neg (by rw [tdivR]; omega)]
      simp only
      congr 1
      omega
    · have hd : nDigits u = nDigits (u / 10) + 1 := nDigits_big hu
      have hp : acc * 10 ^ nDigits u = acc * 10 ^ nDigits (u / 10) * 10 := by rw [hd, Nat.pow_succ, Nat.mul_assoc]
      rw [hp] at h ⊢
      rw [decDigits, dif_neg hu, List.append_assoc, ih (u / 10) (by omega) acc _ (by omega)]
      have e : (UInt8.ofNat (48 + u % 10)).toNat = 48 + u % 10 := by rw [UInt8.toNat_ofNat']; omega
      generalize acc * 10 ^ nDigits (u / 10) = q at h ⊢
      simp only [List.cons_append, List.nil_append, numGo, stepN, e, Bool.false_eq_true, false_and, true_and, false_or, if_false]
      rw [if_neg (by omega), if_neg (by rw [tdivR]; omega)]
      simp only
      congr 1
      omega
open Go.Lib in
theorem numGo_neg : ∀ (u : Nat) (acc : Nat) (r : List UInt8), acc * 10 ^ nDigits u + u ≤ 9223372036854775808 → numGo true (-(acc : Int)) (decDigits u ++ r) = numGo true (-((acc * 10 ^ nDigits u + u : Nat) : Int)) r := by
  intro u
  induction u using Nat.strongRecOn with
  | _ u ih =>
    intro acc r h
    by_cases hu : u < 10
    · rw [nDigits_small hu] at h ⊢
      rw [decDigits, dif_pos hu]
      have e : (UInt8.ofNat (48 + u)).toNat = 48 + u := by rw [UInt8.toNat_ofNat']; omega
      simp only [List.cons_append, List.nil_append, numGo, stepN, e, Nat.pow_one, Bool.true_eq_false, false_and, true_and, or_false, if_true] at h ⊢
      rw [if_neg (by omega), if_neg (by rw [tdivR]; omega)]
      simp only
      congr 1
      omega
    · have hd : nDigits u = nDigits (u / 10) + 1 := nDigits_big hu
      have hp : acc * 10 ^ nDigits u = acc * 10 ^ nDigits (u / 10) * 10 := by rw [hd, Nat.pow_succ, Nat.mul_assoc]
      rw [hp] at h ⊢
      rw [decDigits, dif_neg hu, List.append_assoc, ih (u / 10) (by omega) acc _ (by omega)]
      have e : (UInt8.ofNat (48 + u % 10)).toNat = 48 + u % 10 := by rw [UInt8.toNat_ofNat']; omega
      generalize acc * 10 ^ nDigits (u / 10) = q at h ⊢
      simp only [List.cons_append, List.nil_append, numGo, stepN, e, Bool.true_eq_false, false_and, true_and, or_false, if_true]
      rw [if_neg (by omega), if_neg (by rw [tdivR]; omega)]
      simp only
      congr 1
      omega
open Go.Lib in
theorem decDigits_head : ∀ (u : Nat), 1 ≤ u → ∃ c r, decDigits u = c :: r ∧ c ≠ 48 ∧ c ≠ 45 := by
  intro u
  induction u using Nat.strongRecOn with
  | _ u ih =>
    intro h
    by_cases hu : u < 10
    · rw [decDigits, dif_pos hu]
      refine ⟨_, [], rfl, ?_, ?_⟩
      · intro e
        have := congrArg UInt8.toNat e
        rw [UInt8.toNat_ofNat'] at this
        have e2 : (48 : UInt8).toNat = 48 := rfl
        omega
      · intro e
        have := congrArg UInt8.toNat e
        rw [UInt8.toNat_ofNat'] at this
        have e2 : (45 : UInt8).toNat = 45 := rfl
        omega
    · rw [decDigits, dif_neg hu]
      obtain ⟨c, r, h1, h2⟩ := ih (u / 10) (by omega) (by omega)
      rw [h1]
      exact ⟨c, _, rfl, h2⟩
open Go.Lib in
theorem rnum_itoa (n : Int) (h0 : -9223372036854775808 ≤ n) (h1 : n ≤ 9223372036854775807) : rnum (itoa n) = some n := by
  unfold itoa
  by_cases hn : n < 0
  · rw [if_pos hn]
    obtain ⟨c, r, hd, hc, -⟩ := decDigits_head n.natAbs (by omega)
    have hneg : negL (45 :: decDigits n.natAbs) = true := rfl
    have hat : numAt (45 :: decDigits n.natAbs) = 1 := by simp [numAt, hneg]
    have hg := numGo_neg n.natAbs 0 [] (by simp; omega)
    simp only [List.append_nil, Nat.zero_mul, Nat.zero_add] at hg
    unfold rnum
    rw [hneg, hat, if_neg]
    · simp only [List.drop_succ_cons, List.drop_zero]
      have e : -((0 : Nat) : Int) = 0 := rfl
      rw [e] at hg
      rw [hg, numGo]
      congr 1; omega
    · rw [hd]; simp [hc]
  · rw [if_neg hn]
    by_cases hz : n = 0
    · subst hz; rw [show (0 : Int).toNat = 0 from rfl, decDigits_one (by decide)]; rfl
    · obtain ⟨c, r, hd, hc, hc2⟩ := decDigits_head n.toNat (by omega)
      have hneg : negL (decDigits n.toNat) = false := by rw [hd]; simp [negL, hc2]
      have hat : numAt (decDigits n.toNat) = 0 := by simp [numAt, hneg]
      have hg := numGo_pos n.toNat 0 [] (by simp; omega)
      simp only [List.append_nil, Nat.zero_mul, Nat.zero_add] at hg
      unfold rnum
      rw [hneg, hat, if_neg]
      · rw [List.drop_zero]
        have e : ((0 : Nat) : Int) = 0 := rfl
        rw [e] at hg
        rw [hg, numGo]
        congr 1; omega
      · rw [hd]; simp [hc]
theorem rtextL_q (r : List UInt8) : rtextL (39 :: 39 :: r) = (rtextL r).map (39 :: ·) := by simp [rtextL]
theorem rtextL_o {c : UInt8} (h : c ≠ 39) (r : List UInt8) : rtextL (c :: r) = (rtextL r).map (c :: ·) := by
  cases r with
  | nil => simp [rtextL, h]
  | cons d r => simp [rtextL, h]
theorem rtextL_dbl (x : List UInt8) : rtextL (dbl x) = some x := by
  induction x with
  | nil => rfl
  | cons c r ih =>
    by_cases h : c = 39
    · subst h; rw [dbl_q, rtextL_q, ih]; rfl
    · rw [dbl_o h, rtextL_o h, ih]; rfl
/-- A text that begins with no sign and no digit is no number of the document's. -/
theorem rnum_no (c : UInt8) (r : List UInt8) (h : c.toNat < 48 ∨ 57 < c.toNat) (h45 : c ≠ 45) : rnum (c :: r) = none := by
  have hneg : negL (c :: r) = false := by simp [negL, h45]
  have hat : numAt (c :: r) = 0 := by simp [numAt, hneg]
  unfold rnum
  rw [hneg, hat]
  split
  · rfl
  · simp [numGo, stepN, h]
set_option maxRecDepth 100000 in
theorem nib_all : ∀ c : Fin 256, nib (UInt8.ofNat c.val) = xd (UInt8.ofNat c.val) := by decide
theorem nib_xd (c : UInt8) : nib c = xd c := by
  have h := nib_all ⟨c.toNat, c.toNat_lt⟩
  simpa using h
theorem rhexL_unhex : ∀ l : List UInt8, rhexL l = unhex l
  | [] => rfl
  | [_] => rfl
  | a :: b :: r => by rw [rhexL, unhex, nib_xd, nib_xd, rhexL_unhex r]
theorem rread_lit {v : V} (h : v.may = true) (hf : v.fit) : rread v.lit = some v := by
  have hlen := lit_len2 h hf
  unfold rread
  rw [if_neg (by omega)]
  rcases may_four h with rfl | ⟨n, rfl⟩ | ⟨s, hs, rfl⟩ | ⟨s, hs, rfl⟩
  · rw [lit_null, if_pos rfl]
  · rw [lit_int, rnum_itoa n hf.1 hf.2, if_neg]
    intro e
    have := itoa_mem (n := n) (c := 78) (by rw [e]; simp)
    simp at this
  · rw [lit_text hs, quoted, rnum_no 39 _ (by decide) (by decide), if_neg (by simp)]
    have hb : rblobB (39 :: (dbl s.data.toList ++ [39])) = false := rfl
    have hq : rquo (39 :: (dbl s.data.toList ++ [39])) = some s.data.toList := by
      unfold rquo
      simp only [rfrom, hb, Bool.false_eq_true, if_false, Nat.zero_add]
      rw [inner_quoted, if_neg]
      · simp only [rbytes, Bool.false_eq_true, if_false]; exact rtextL_dbl _
      · have hl : (39 :: (dbl s.data.toList ++ [39]))[(39 :: (dbl s.data.toList ++ [39])).length - 1]? = some 39 := by simp
        simp
    rw [hq]
    simp only [rkind, hb, Bool.false_eq_true, if_false, arr_self]
    rw [if_pos hs]
  · rw [lit_blob hs, blobbed, rnum_no 120 _ (by decide) (by decide), if_neg (by simp)]
    have hb : rblobB (120 :: 39 :: (hexs s.data.toList ++ [39])) = true := rfl
    have hq : rquo (120 :: 39 :: (hexs s.data.toList ++ [39])) = some s.data.toList := by
      unfold rquo
      simp only [rfrom, hb, if_true]
      rw [inner_blobbed, if_neg]
      · simp only [rbytes, if_true]; rw [rhexL_unhex]; exact unhex_hexs _
      · simp
    rw [hq]
    simp only [rkind, hb, if_true, arr_self]
    rw [if_pos hs]

/-! ### One part -/
theorem readAll_lits : ∀ (vs : List V), (∀ v ∈ vs, v.may = true) → fits vs → readAll (vs.map V.lit) = some vs
  | [], _, _ => rfl
  | v :: vs, h, hf => by
    rw [List.map_cons, readAll, rread_lit (h v (by simp)) (hf v (by simp)), readAll_lits vs (fun u hu => h u (by simp [hu])) (fun u hu => hf u (by simp [hu]))]
    rfl
theorem readAll_fit : ∀ (ls : List (List UInt8)) (vs : List V), readAll ls = some vs → fits vs
  | [], vs, h => by cases h; simp [fits]
  | l :: ls, vs, h => by
    rw [readAll] at h
    cases hr : rread l with
    | none => rw [hr] at h; cases h
    | some v =>
      rw [hr] at h
      cases ha : readAll ls with
      | none => rw [ha] at h; cases h
      | some us =>
        rw [ha] at h
        cases h
        intro u hu
        rcases List.mem_cons.1 hu with rfl | hu
        · exact rread_fit hr
        · exact readAll_fit ls us ha u hu
def calmC (a : List UInt8) : Prop := ∀ acc r, r ≠ [] → cutsL false acc (a ++ r) = cutsL false (acc ++ a) r
theorem cutsL_step {q : Bool} {acc r : List UInt8} {c : UInt8} (h : tog q c = true ∨ (c ≠ 44 ∧ r ≠ [])) : cutsL q acc (c :: r) = cutsL (tog q c) (acc ++ [c]) r := by
  rw [cutsL, if_neg]
  rintro ⟨h1, h2⟩
  rcases h with h | h
  · rw [h] at h1; cases h1
  · rcases h2 with h2 | h2
    · exact h.1 h2
    · exact h.2 h2
theorem calmC_plain {a : List UInt8} (h : ∀ c ∈ a, c ≠ 39 ∧ c ≠ 44) : calmC a := by
  induction a with
  | nil => intro acc r _; simp
  | cons c a ih =>
    intro acc r hr
    have hc := h c (by simp)
    have ht : tog false c = false := by simp [tog, hc.1]
    rw [List.cons_append, cutsL_step (.inr ⟨hc.2, by simp [hr]⟩), ht, ih (fun d hd => h d (by simp [hd])) _ _ hr]
    simp
theorem cutsL_in (x : List UInt8) : ∀ acc r, r ≠ [] → cutsL true acc (dbl x ++ 39 :: r) = cutsL false (acc ++ dbl x ++ [39]) r := by
  induction x with
  | nil =>
    intro acc r hr
    have ht : tog true 39 = false := rfl
    rw [dbl_nil, List.nil_append, cutsL_step (.inr ⟨by decide, hr⟩), ht]
    simp
  | cons c x ih =>
    intro acc r hr
    by_cases h : c = 39
    · subst h
      have ht : tog true 39 = false := rfl
      have ht2 : tog false 39 = true := rfl
      rw [dbl_q, List.cons_append, List.cons_append, cutsL_step (.inr ⟨by decide, by simp⟩), ht, cutsL_step (.inl ht2), ht2, ih _ _ hr]
      simp
    · have ht : tog true c = true := by simp [tog, h]
      rw [dbl_o h, List.cons_append, cutsL_step (.inl ht), ht, ih _ _ hr]
      simp
theorem calmC_quoted (x : List UInt8) : calmC (quoted x) := by
  intro acc r hr
  have ht : tog false 39 = true := rfl
  have e : quoted x ++ r = 39 :: (dbl x ++ 39 :: r) := by simp [quoted]
  rw [e, cutsL_step (.inl ht), ht, cutsL_in _ _ _ hr]
  simp [quoted]
theorem calmC_append {a b : List UInt8} (ha : calmC a) (hb : calmC b) : calmC (a ++ b) := by
  intro acc r hr
  rw [List.append_assoc, ha _ _ (by simp [hr]), hb _ _ hr, List.append_assoc]
theorem blob_eq (x : List UInt8) : blobbed x = [120] ++ quoted (hexs x) := by
  rw [blobbed, quoted, dbl_noQ (fun c hc => (hexs_mem hc).1)]; rfl
theorem calmC_lit {v : V} (h : v.may = true) : calmC v.lit := by
  rcases may_four h with rfl | ⟨n, rfl⟩ | ⟨s, hs, rfl⟩ | ⟨s, hs, rfl⟩
  · rw [lit_null]
    exact calmC_plain (by intro c hc; simp at hc; rcases hc with rfl | rfl | rfl <;> decide)
  · rw [lit_int]
    refine calmC_plain ?_
    intro c hc
    have hm := itoa_mem hc
    refine ⟨?_, ?_⟩ <;> · rintro rfl; simp at hm
  · rw [lit_text hs]; exact calmC_quoted _
  · rw [lit_blob hs, blob_eq]; exact calmC_append (calmC_plain (by intro c hc; simp at hc; subst hc; decide)) (calmC_quoted _)
theorem cutsL_sep (acc r : List UInt8) : cutsL false acc (44 :: r) = acc :: cutsL false [] r := by
  have ht : tog false 44 = false := rfl
  rw [cutsL, ht, if_pos ⟨rfl, .inl rfl⟩]
theorem cutsL_last (acc : List UInt8) : cutsL false acc [10] = [acc] := by
  have ht : tog false 10 = false := rfl
  rw [cutsL, ht, if_pos ⟨rfl, .inr rfl⟩]; rfl
theorem cutsL_params : ∀ (vs : List V) (acc : List UInt8), (∀ v ∈ vs, v.may = true) → cutsL false acc (paramsT vs ++ [10]) = acc :: vs.map V.lit
  | [], acc, _ => cutsL_last acc
  | v :: vs, acc, h => by
    rw [paramsT_cons, List.cons_append, cutsL_sep, List.append_assoc, calmC_lit (h v (by simp)) [] _ (by simp), List.nil_append, cutsL_params vs _ (fun u hu => h u (by simp [hu]))]
    rfl
theorem cutsL_part {t : T} (h : t.may = true) : cutsL false [] t.part = quoted t.sql.data.toList :: t.ps.map V.lit := by
  have e : t.part = quoted t.sql.data.toList ++ (paramsT t.ps ++ [10]) := by simp [T.part]
  rw [e, calmC_quoted _ [] _ (by simp), List.nil_append, cutsL_params _ _ (may_ps h)]
theorem sqlS_quoted (x : List UInt8) : sqlS (quoted x) = some x := by
  unfold sqlS quoted
  rw [inner_quoted, rtextL_dbl, if_neg]
  simp
theorem oneS_full {t : T} (h : t.may = true) (hf : t.fit) : oneS t.part = some t := by
  unfold oneS
  rw [cutsL_part h, toldS, sqlS_quoted]
  simp only [readAll_lits _ (may_ps h) hf, arr_self]
  simp [h]
theorem oneS_sound {p : List UInt8} {t : T} (h : oneS p = some t) : t.may = true ∧ t.fit ∧ t.part = p := by
  unfold oneS at h
  split at h
  · cases h
  · rename_i u hu
    split at h
    · rename_i hh
      cases h
      refine ⟨hh.1, ?_, hh.2⟩
      cases hc : cutsL false [] p with
      | nil => rw [hc] at hu; cases hu
      | cons a ls =>
        rw [hc, toldS] at hu
        cases hs : sqlS a with
        | none => rw [hs] at hu; cases hu
        | some x =>
          rw [hs] at hu
          cases hr : readAll ls with
          | none => rw [hr] at hu; cases hu
          | some ps =>
            rw [hr] at hu
            cases hu
            exact readAll_fit ls _ hr
    · cases h

/-! ### Ends -/
def calmE (a : List UInt8) : Prop := ∀ i r, endsL false i (a ++ r) = endsL false (i + a.length) r
theorem endsL_step {q : Bool} {i : Nat} {c : UInt8} {r : List UInt8} (h : c ≠ 10 ∨ tog q c = true) : endsL q i (c :: r) = endsL (tog q c) (i + 1) r := by
  rw [endsL, if_neg]
  rintro ⟨h1, h2⟩
  rcases h with h | h
  · exact h h1
  · rw [h] at h2; cases h2
theorem calmE_plain {a : List UInt8} (h : ∀ c ∈ a, c ≠ 39 ∧ c ≠ 10) : calmE a := by
  induction a with
  | nil => intro i r; rfl
  | cons c a ih =>
    intro i r
    have hc := h c (by simp)
    have ht : tog false c = false := by simp [tog, hc.1]
    rw [List.cons_append, endsL_step (.inl hc.2), ht, ih (fun d hd => h d (by simp [hd])), List.length_cons]
    congr 1; omega
theorem endsL_in (x : List UInt8) : ∀ i r, endsL true i (dbl x ++ 39 :: r) = endsL false (i + (dbl x).length + 1) r := by
  induction x with
  | nil => intro i r; exact endsL_step (.inl (by decide))
  | cons c x ih =>
    intro i r
    by_cases h : c = 39
    · subst h
      have ht : tog true 39 = false := rfl
      have ht2 : tog false 39 = true := rfl
      rw [dbl_q, List.cons_append, List.cons_append, endsL_step (.inl (by decide)), ht, endsL_step (.inl (by decide)), ht2, ih]
      congr 1; simp; omega
    · have ht : tog true c = true := by simp [tog, h]
      rw [dbl_o h, List.cons_append, endsL_step (.inr ht), ht, ih]
      congr 1; simp; omega
theorem calmE_quoted (x : List UInt8) : calmE (quoted x) := by
  intro i r
  have ht : tog false 39 = true := rfl
  have e : quoted x ++ r = 39 :: (dbl x ++ 39 :: r) := by simp [quoted]
  rw [e, endsL_step (.inl (by decide)), ht, endsL_in, quoted_len2]
  congr 1; omega
theorem calmE_append {a b : List UInt8} (ha : calmE a) (hb : calmE b) : calmE (a ++ b) := by
  intro i r
  rw [List.append_assoc, ha, hb, List.length_append]
  congr 1; omega
theorem calmE_lit {v : V} (h : v.may = true) : calmE v.lit := by
  rcases may_four h with rfl | ⟨n, rfl⟩ | ⟨s, hs, rfl⟩ | ⟨s, hs, rfl⟩
  · rw [lit_null]
    exact calmE_plain (by intro c hc; simp at hc; rcases hc with rfl | rfl | rfl <;> decide)
  · rw [lit_int]
    refine calmE_plain ?_
    intro c hc
    have hm := itoa_mem hc
    refine ⟨?_, ?_⟩ <;> · rintro rfl; simp at hm
  · rw [lit_text hs]; exact calmE_quoted _
  · rw [lit_blob hs, blob_eq]; exact calmE_append (calmE_plain (by intro c hc; simp at hc; subst hc; decide)) (calmE_quoted _)
theorem calmE_params : ∀ (vs : List V), (∀ v ∈ vs, v.may = true) → calmE (paramsT vs)
  | [], _ => by intro i r; rfl
  | v :: vs, h => by
    have e : paramsT (v :: vs) = [44] ++ (v.lit ++ paramsT vs) := by rw [paramsT_cons]; rfl
    rw [e]
    exact calmE_append (calmE_plain (by intro c hc; simp at hc; subst hc; decide)) (calmE_append (calmE_lit (h v (by simp))) (calmE_params vs fun u hu => h u (by simp [hu])))
theorem endsL_part {t : T} (h : t.may = true) (i : Nat) (r : List UInt8) : endsL false i (t.part ++ r) = (i + t.part.length) :: endsL false (i + t.part.length) r := by
  have e : t.part ++ r = (quoted t.sql.data.toList ++ paramsT t.ps) ++ 10 :: r := by simp [T.part]
  have hl : t.part.length = (quoted t.sql.data.toList ++ paramsT t.ps).length + 1 := by simp [T.part]; omega
  have ht : tog false 10 = false := rfl
  rw [e, calmE_append (calmE_quoted _) (calmE_params _ (may_ps h)), endsL, ht, if_pos ⟨rfl, rfl⟩, hl]
  rfl
theorem endsL_bound : ∀ (r : List UInt8) (q : Bool) (i e : Nat), e ∈ endsL q i r → i < e ∧ e ≤ i + r.length
  | [], _, _, _, h => by cases h
  | c :: r, q, i, e, h => by
    rw [endsL] at h
    split at h
    · rcases List.mem_cons.1 h with rfl | h
      · simp
      · have := endsL_bound r _ _ _ h
        simp only [List.length_cons]; omega
    · have := endsL_bound r _ _ _ h
      simp only [List.length_cons]; omega

theorem ref_eq : ∀ (n : Nat) (l : List UInt8) (k : Nat), k ≤ l.length → l.length - k < n → readS n l k = refRun l (endsL false k (l.drop k)) k
  | 0, _, _, _, h => by omega
  | n + 1, l, k, hk, hn => by
    by_cases hlt : k < l.length
    · cases hp : partS l k with
      | some x =>
        obtain ⟨t, j⟩ := x
        obtain ⟨p1, p2, p3, p4, p5⟩ := partS_sound hp
        have hpos := part_pos t
        have hpc : pieceL l k (k + t.part.length) = t.part := piece_of p3
        subst p4
        rw [readS_some hlt hp, p3, endsL_part p1, refRun, hpc, oneS_full p1 p2, ref_eq n l _ p5 (by omega)]
        rfl
      | none =>
        rw [readS_none hlt hp]
        cases he : endsL false k (l.drop k) with
        | nil => rw [refRun, if_pos hlt]
        | cons e es =>
          rw [refRun]
          cases ho : oneS (pieceL l k e) with
          | none => rfl
          | some t =>
            exfalso
            obtain ⟨o1, o2, o3⟩ := oneS_sound ho
            have hb := endsL_bound _ _ _ e (by rw [he]; simp)
            have hd : l.drop k = t.part ++ l.drop e := by
              rw [o3]
              unfold pieceL
              rw [List.drop_take]
              have : l.drop e = (l.drop k).drop (e - k) := by rw [List.drop_drop]; congr 1; omega
              rw [this, List.take_append_drop]
            rw [partS_full o1 o2 hd] at hp
            cases hp
    · rw [readS_end hlt, List.drop_of_length_le (by omega)]
      simp [endsL, refRun, hlt]
end Go.Proofs.YtkkildkleleppaaGreatDoor
namespace Go.Proofs.YtkkildkleleppaaGreatDoor
open Go.RowKit

/-- A blank and a number. -/
def numT (n : Int) : List UInt8 := 32 :: Lib.itoa n
/-- An error's text. -/
def faultT (e place : Int) : List UInt8 := [101, 114, 114, 111, 114] ++ numT e ++ (if e = 250 ∨ e = 260 then numT place else []) ++ [10]
def In64 (n : Int) : Prop := -9223372036854775808 ≤ n ∧ n ≤ 9223372036854775807

theorem numT_len {n : Int} (h : In64 n) : (numT n).length ≤ 22 := by have := itoa_len n h; simp [numT]; omega
theorem num_cat (n : Int) : ByteArray.mk #[32] ++ ByteArray.mk (Lib.itoa n).toArray = ByteArray.mk (numT n).toArray := cat_str [32] (Lib.itoa n)

set_option maxHeartbeats 400000 in
theorem num_any (n : Int) (h : In64 n) (w : World) (hE : Env w) : Calls Tryz.prog 55 #[.int .i64 n] w (Ret w (.string ⟨(numT n).toArray⟩)) := by
  have HC := Lib.hid (Itoa_any n h.1 h.2 w hE)
  have hl := itoa_len n h
  clear h
  go_enter Tryz.func55, Tryz.ntmps55
  go_wp2_with (go_at_call 111; refine HC.out.mono ?_; rintro e w1 ⟨rfl, hb1⟩)
  go_ret
  exact ⟨by rw [num_cat]; rfl, hb1⟩
set_option maxHeartbeats 400000 in
theorem Num_any (n : Int) (h : In64 n) (w : World) (hE : Env w) : Calls Tryz.prog 60 #[.int .i64 n] w (Ret w (.string ⟨(numT n).toArray⟩)) := by
  have HC := Lib.hid (Itoa_any n h.1 h.2 w hE)
  have hl := itoa_len n h
  clear h
  go_enter Tryz.func60, Tryz.ntmps60
  go_wp2_with (go_at_call 111; refine HC.out.mono ?_; rintro e w1 ⟨rfl, hb1⟩)
  go_ret
  exact ⟨by rw [num_cat]; rfl, hb1⟩

set_option maxHeartbeats 400000 in
theorem fault_any (e place : Int) (h : In64 e) (hp : In64 place) (w : World) (hE : Env w) : Calls Tryz.prog 56 #[.int .i64 e, .int .i64 place] w (Ret w (.string ⟨(faultT e place).toArray⟩)) := by
  have HE := Lib.hid hE
  have HC := Lib.hid (fun w' hE => num_any e h w' hE)
  have HP := Lib.hid (fun w' hE => num_any place hp w' hE)
  have l1 := numT_len h
  have l2 := numT_len hp
  clear h hp hE
  by_cases h1 : e = 250
  · have HF : Hid (faultT e place = ([101, 114, 114, 111, 114] ++ numT e) ++ numT place ++ [10]) := Lib.hid (by rw [faultT, if_pos (.inl h1)])
    have e1 : (e == 250) = true := by simp [h1]
    clear h1
    go_enter Tryz.func56, Tryz.ntmps56
    go_wp2_with (first
      | (go_at_call 55; (with_reducible refine (HC.out _ HE.out).mono ?_); rintro e w1 ⟨rfl, hb1⟩)
      | (go_at_call 55; (with_reducible refine (HP.out _ (HE.out.below hb1)).mono ?_); rintro e w2 ⟨rfl, hb2⟩))
    go_ret
    refine ⟨?_, hb1.trans (hb2.mono hb1.size)⟩
    rw [HF.out, show (ByteArray.mk #[101, 114, 114, 111, 114]) = ByteArray.mk [101, 114, 114, 111, 114].toArray from rfl, show (ByteArray.mk #[10]) = ByteArray.mk [10].toArray from rfl, cat_str, cat_str, cat_str]
    rfl
  · by_cases h2 : e = 260
    · have HF : Hid (faultT e place = ([101, 114, 114, 111, 114] ++ numT e) ++ numT place ++ [10]) := Lib.hid (by rw [faultT, if_pos (.inr h2)])
      have e1 : (e == 250) = false := by simp [h1]
      have e2 : (e == 260) = true := by simp [h2]
      clear h1 h2
      go_enter Tryz.func56, Tryz.ntmps56
      go_wp2_with (first
        | (go_at_call 55; (with_reducible refine (HC.out _ HE.out).mono ?_); rintro e w1 ⟨rfl, hb1⟩)
        | (go_at_call 55; (with_reducible refine (HP.out _ (HE.out.below hb1)).mono ?_); rintro e w2 ⟨rfl, hb2⟩))
      go_ret
      refine ⟨?_, hb1.trans (hb2.mono hb1.size)⟩
      rw [HF.out, show (ByteArray.mk #[101, 114, 114, 111, 114]) = ByteArray.mk [101, 114, 114, 111, 114].toArray from rfl, show (ByteArray.mk #[10]) = ByteArray.mk [10].toArray from rfl, cat_str, cat_str, cat_str]
      rfl
    · have HF : Hid (faultT e place = ([101, 114, 114, 111, 114] ++ numT e) ++ [10]) := Lib.hid (by rw [faultT, if_neg (by rintro (a | a); exact h1 a; exact h2 a)]; simp)
      have e1 : (e == 250) = false := by simp [h1]
      have e2 : (e == 260) = false := by simp [h2]
      clear h1 h2
      go_enter Tryz.func56, Tryz.ntmps56
      go_wp2_with (first
        | (go_at_call 55; (with_reducible refine (HC.out _ HE.out).mono ?_); rintro e w1 ⟨rfl, hb1⟩)
        | (go_at_call 55; (with_reducible refine (HP.out _ (HE.out.below hb1)).mono ?_); rintro e w2 ⟨rfl, hb2⟩))
      go_ret
      refine ⟨?_, hb1⟩
      rw [HF.out, show (ByteArray.mk #[101, 114, 114, 111, 114]) = ByteArray.mk [101, 114, 114, 111, 114].toArray from rfl, show (ByteArray.mk #[10]) = ByteArray.mk [10].toArray from rfl, cat_str, cat_str]
      rfl
set_option maxHeartbeats 400000 in
theorem Fault_any (e place : Int) (h : In64 e) (hp : In64 place) (w : World) (hE : Env w) : Calls Tryz.prog 61 #[.int .i64 e, .int .i64 place] w (Ret w (.string ⟨(faultT e place).toArray⟩)) := by
  have HE := Lib.hid hE
  have HC := Lib.hid (fun w' hE => Num_any e h w' hE)
  have HP := Lib.hid (fun w' hE => Num_any place hp w' hE)
  have l1 := numT_len h
  have l2 := numT_len hp
  clear h hp hE
  by_cases h1 : e = 250
  · have HF : Hid (faultT e place = ([101, 114, 114, 111, 114] ++ numT e) ++ numT place ++ [10]) := Lib.hid (by rw [faultT, if_pos (.inl h1)])
    have e1 : (e == 250) = true := by simp [h1]
    clear h1
    go_enter Tryz.func61, Tryz.ntmps61
    go_wp2_with (first
      | (go_at_call 60; (with_reducible refine (HC.out _ HE.out).mono ?_); rintro e w1 ⟨rfl, hb1⟩)
      | (go_at_call 60; (with_reducible refine (HP.out _ (HE.out.below hb1)).mono ?_); rintro e w2 ⟨rfl, hb2⟩))
    go_ret
    refine ⟨?_, hb1.trans (hb2.mono hb1.size)⟩
    rw [HF.out, show (ByteArray.mk #[101, 114, 114, 111, 114]) = ByteArray.mk [101, 114, 114, 111, 114].toArray from rfl, show (ByteArray.mk #[10]) = ByteArray.mk [10].toArray from rfl, cat_str, cat_str, cat_str]
    rfl
  · by_cases h2 : e = 260
    · have HF : Hid (faultT e place = ([101, 114, 114, 111, 114] ++ numT e) ++ numT place ++ [10]) := Lib.hid (by rw [faultT, if_pos (.inr h2)])
      have e1 : (e == 250) = false := by simp [h1]
      have e2 : (e == 260) = true := by simp [h2]
      clear h1 h2
      go_enter Tryz.func61, Tryz.ntmps61
      go_wp2_with (first
        | (go_at_call 60; (with_reducible refine (HC.out _ HE.out).mono ?_); rintro e w1 ⟨rfl, hb1⟩)
        | (go_at_call 60; (with_reducible refine (HP.out _ (HE.out.below hb1)).mono ?_); rintro e w2 ⟨rfl, hb2⟩))
      go_ret
      refine ⟨?_, hb1.trans (hb2.mono hb1.size)⟩
      rw [HF.out, show (ByteArray.mk #[101, 114, 114, 111, 114]) = ByteArray.mk [101, 114, 114, 111, 114].toArray from rfl, show (ByteArray.mk #[10]) = ByteArray.mk [10].toArray from rfl, cat_str, cat_str, cat_str]
      rfl
    · have HF : Hid (faultT e place = ([101, 114, 114, 111, 114] ++ numT e) ++ [10]) := Lib.hid (by rw [faultT, if_neg (by rintro (a | a); exact h1 a; exact h2 a)]; simp)
      have e1 : (e == 250) = false := by simp [h1]
      have e2 : (e == 260) = false := by simp [h2]
      clear h1 h2
      go_enter Tryz.func61, Tryz.ntmps61
      go_wp2_with (first
        | (go_at_call 60; (with_reducible refine (HC.out _ HE.out).mono ?_); rintro e w1 ⟨rfl, hb1⟩)
        | (go_at_call 60; (with_reducible refine (HP.out _ (HE.out.below hb1)).mono ?_); rintro e w2 ⟨rfl, hb2⟩))
      go_ret
      refine ⟨?_, hb1⟩
      rw [HF.out, show (ByteArray.mk #[101, 114, 114, 111, 114]) = ByteArray.mk [101, 114, 114, 111, 114].toArray from rfl, show (ByteArray.mk #[10]) = ByteArray.mk [10].toArray from rfl, cat_str, cat_str]
      rfl
end Go.Proofs.YtkkildkleleppaaGreatDoor
