/- Plain law: quotes, digits, numerals: what is written is read as itself. No program in sight. -/
import Derived.Test.YtkkildkleleppaaDoorRead
namespace Go.Proofs.YtkkildkleleppaaDoor

theorem dbl_q (z : List UInt8) : dbl (39 :: z) = 39 :: 39 :: dbl z := by simp [dbl, dblOne]
theorem dbl_o {c : UInt8} (h : c ≠ 39) (z : List UInt8) : dbl (c :: z) = c :: dbl z := by simp [dbl, dblOne, h]

theorem undbl_q (l : List UInt8) : undbl (39 :: 39 :: l) = 39 :: undbl l := by simp [undbl]
theorem undbl_o {c : UInt8} (h : c ≠ 39) (l : List UInt8) : undbl (c :: l) = c :: undbl l := by
  cases l with
  | nil => rfl
  | cons d r => simp [undbl, h]
theorem undbl_dbl (x : List UInt8) : undbl (dbl x) = x := by
  induction x with
  | nil => rfl
  | cons c r ih =>
    by_cases h : c = 39
    · subst h; rw [dbl_q, undbl_q, ih]
    · rw [dbl_o h, undbl_o h, ih]

theorem xd_hexd : ∀ i : Fin 16, xd (hexd i.val) = i.val := by decide
theorem hexd_plain : ∀ i : Fin 16, hexd i.val ≠ 39 ∧ hexd i.val ≠ 10 ∧ hexd i.val ≠ 44 := by decide
theorem hexs_cons (c : UInt8) (r : List UInt8) : hexs (c :: r) = hexd (c.toNat / 16) :: hexd (c.toNat % 16) :: hexs r := by simp [hexs, hexOne]
theorem unhex_hexs (x : List UInt8) : unhex (hexs x) = some x := by
  induction x with
  | nil => rfl
  | cons c r ih =>
    have hc : c.toNat < 256 := c.toNat_lt
    have h1 := xd_hexd ⟨c.toNat / 16, by omega⟩
    have h2 := xd_hexd ⟨c.toNat % 16, by omega⟩
    simp only at h1 h2
    rw [hexs_cons, unhex, h1, h2, ih, if_neg (by omega)]
    simp only [Option.map_some, Int.toNat_natCast]
    have : c.toNat / 16 * 16 + c.toNat % 16 = c.toNat := by omega
    rw [this, ofNat_toNat8]
/-- No byte of the list is a quote. -/
def noQ (l : List UInt8) : Prop := ∀ c ∈ l, c ≠ 39
theorem hexs_mem {x : List UInt8} {c : UInt8} (h : c ∈ hexs x) : c ≠ 39 ∧ c ≠ 10 ∧ c ≠ 44 := by
  induction x with
  | nil => simp [hexs] at h
  | cons d r ih =>
    have hd : d.toNat < 256 := d.toNat_lt
    rw [hexs_cons, List.mem_cons, List.mem_cons] at h
    rcases h with rfl | rfl | h
    · exact hexd_plain ⟨d.toNat / 16, by omega⟩
    · exact hexd_plain ⟨d.toNat % 16, by omega⟩
    · exact ih h
theorem dbl_noQ {l : List UInt8} (h : noQ l) : dbl l = l := by
  induction l with
  | nil => rfl
  | cons c r ih => rw [dbl_o (h c (by simp)), ih (fun d hd => h d (by simp [hd]))]

open Go.Lib in
theorem decDigits_digit : ∀ (u : Nat), ∀ c ∈ decDigits u, 48 ≤ c.toNat ∧ c.toNat ≤ 57 := by
  intro u
  induction u using Nat.strongRecOn with
  | _ u ih =>
    intro c hc
    by_cases h : u < 10
    · rw [decDigits, dif_pos h] at hc
      simp only [List.mem_cons, List.not_mem_nil, or_false] at hc
      subst hc
      rw [UInt8.toNat_ofNat']
      omega
    · rw [decDigits, dif_neg h, List.mem_append] at hc
      rcases hc with hc | hc
      · exact ih (u / 10) (by omega) c hc
      · simp only [List.mem_cons, List.not_mem_nil, or_false] at hc
        subst hc
        rw [UInt8.toNat_ofNat']
        omega
open Go.Lib in
theorem decDigits_ne (u : Nat) : decDigits u ≠ [] := by
  intro h
  have := decDigits_length u
  have := nDigits_pos u
  rw [h] at *
  simp at *
  omega
open Go.Lib in
theorem parseUintM_dec (M : Nat) (hM : M < 18446744073709551616) : ∀ (u acc : Nat) (r : List UInt8), acc * 10 ^ nDigits u + u ≤ M → parseUintM M acc (decDigits u ++ r) = parseUintM M (acc * 10 ^ nDigits u + u) r := by
  intro u
  induction u using Nat.strongRecOn with
  | _ u ih =>
    intro acc r h
    by_cases hu : u < 10
    · rw [nDigits_small hu] at h ⊢
      rw [decDigits, dif_pos hu]
      have e : (UInt8.ofNat (48 + u)).toNat = 48 + u := by rw [UInt8.toNat_ofNat']; omega
      simp only [List.cons_append, List.nil_append, parseUintM, e, Nat.pow_one] at h ⊢
      rw [if_pos (by omega), if_neg (by omega), if_neg (by omega)]
      congr 1
      omega
    · have hd : nDigits u = nDigits (u / 10) + 1 := nDigits_big hu
      have hp : acc * 10 ^ nDigits u = acc * 10 ^ nDigits (u / 10) * 10 := by rw [hd, Nat.pow_succ, Nat.mul_assoc]
      rw [hp] at h ⊢
      rw [decDigits, dif_neg hu, List.append_assoc, ih (u / 10) (by omega) acc _ (by omega)]
      have e : (UInt8.ofNat (48 + u % 10)).toNat = 48 + u % 10 := by rw [UInt8.toNat_ofNat']; omega
      generalize acc * 10 ^ nDigits (u / 10) = q at h ⊢
      simp only [List.cons_append, List.nil_append, parseUintM, e]
      rw [if_pos (by omega), if_neg (by omega), if_neg (by omega)]
      congr 1
      omega
open Go.Lib in
theorem parseUintB_dec (u : Nat) (h : u < 18446744073709551616) : parseUintB 64 (decDigits u) = .ok u := by
  have h2 := parseUintM_dec (2 ^ 64 - 1) (by decide) u 0 [] (by simp; omega)
  unfold parseUintB
  rw [if_neg (decDigits_ne u)]
  simpa [parseUintM] using h2
open Go.Lib in
theorem parseIntB_itoa (n : Int) (h0 : -9223372036854775808 ≤ n) (h1 : n ≤ 9223372036854775807) : parseIntB 64 (itoa n) = .ok n := by
  have p : 2 ^ (64 - 1) = 9223372036854775808 := by decide
  unfold itoa
  by_cases hn : n < 0
  · rw [if_pos hn, parseIntB_minus, parseUintB_dec n.natAbs (by omega), signedC, p, if_neg (by omega)]
    congr 1
    omega
  · rw [if_neg hn]
    cases hd : decDigits n.toNat with
    | nil => exact absurd hd (decDigits_ne _)
    | cons c r =>
      have hc := decDigits_digit n.toNat c (by rw [hd]; simp)
      rw [parseIntB_plain _ _ _ (by omega) (by omega), ← hd, parseUintB_dec n.toNat (by omega), signlessC, p, if_neg (by omega)]
      congr 1
      omega
theorem pIntO_itoa (n : Int) (h0 : -9223372036854775808 ≤ n) (h1 : n ≤ 9223372036854775807) : pIntO (Lib.itoa n) = some n := by
  unfold pIntO; rw [parseIntB_itoa n h0 h1]
open Go.Lib in
/-- A text that begins with no sign and no digit is no numeral. -/
theorem pIntO_no (c : UInt8) (r : List UInt8) (h : c.toNat < 48 ∨ 57 < c.toNat) (h43 : c.toNat ≠ 43) (h45 : c.toNat ≠ 45) : pIntO (c :: r) = none := by
  have e1 : ¬ (c.toNat = 43 ∨ c.toNat = 45) := by omega
  have e2 : ¬ (48 ≤ c.toNat ∧ c.toNat ≤ 57) := by omega
  simp [pIntO, parseIntB, e1, parseUintB, parseUintM, e2]
theorem itoa_mem {n : Int} {c : UInt8} (h : c ∈ Lib.itoa n) : c.toNat = 45 ∨ (48 ≤ c.toNat ∧ c.toNat ≤ 57) := by
  unfold Lib.itoa at h
  split at h
  · rw [List.mem_cons] at h
    rcases h with rfl | h
    · exact .inl rfl
    · exact .inr (decDigits_digit _ c h)
  · exact .inr (decDigits_digit _ c h)
theorem itoa_ne (n : Int) : Lib.itoa n ≠ [] := by
  unfold Lib.itoa
  split
  · simp
  · exact decDigits_ne _

theorem arr_self (s : ByteArray) : (⟨s.data.toList.toArray⟩ : ByteArray) = s := arr_eq rfl
theorem empty_of {s : ByteArray} (h : s.data.toList = []) : s = ByteArray.empty := by
  have := arr_self s
  rw [h] at this
  exact this.symm

/-- The four kinds of values that may be. -/
theorem may_four {v : V} (h : v.may = true) : (v = ⟨0, 0, ByteArray.empty⟩) ∨ (∃ n, v = ⟨1, n, ByteArray.empty⟩) ∨ (∃ s : ByteArray, s.data.toList.length ≤ 400 ∧ v = ⟨2, 0, s⟩) ∨ (∃ s : ByteArray, s.data.toList.length ≤ 400 ∧ v = ⟨3, 0, s⟩) := by
  obtain ⟨k, n, s⟩ := v
  simp only [V.may, mayB] at h
  by_cases h0 : k = 0
  · rw [if_pos h0] at h
    simp only [Bool.and_eq_true, decide_eq_true_eq, List.isEmpty_iff] at h
    have := empty_of h.2
    exact .inl (by rw [h0, h.1, this])
  · rw [if_neg h0] at h
    by_cases h1 : k = 1
    · rw [if_pos h1] at h
      simp only [List.isEmpty_iff] at h
      have := empty_of h
      exact .inr (.inl ⟨n, by rw [h1, this]⟩)
    · rw [if_neg h1] at h
      by_cases h2 : k = 2 ∨ k = 3
      · rw [if_pos h2] at h
        simp only [Bool.and_eq_true, decide_eq_true_eq] at h
        rcases h2 with h2 | h2
        · exact .inr (.inr (.inl ⟨s, h.2, by rw [h2, h.1]⟩))
        · exact .inr (.inr (.inr ⟨s, h.2, by rw [h2, h.1]⟩))
      · rw [if_neg h2] at h; cases h
theorem lit_null : (V.mk 0 0 ByteArray.empty).lit = [78, 85, 76, 76] := rfl
theorem lit_int (n : Int) : (V.mk 1 n ByteArray.empty).lit = Lib.itoa n := by
  have h : (V.mk 1 n ByteArray.empty).may = true := rfl
  simp [V.lit, h]
theorem may_text {s : ByteArray} (h : s.data.toList.length ≤ 400) : (V.mk 2 0 s).may = true := by
  simp only [V.may, mayB]; simp; simpa using h
theorem may_blob {s : ByteArray} (h : s.data.toList.length ≤ 400) : (V.mk 3 0 s).may = true := by
  simp only [V.may, mayB]; simp; simpa using h
theorem lit_text {s : ByteArray} (h : s.data.toList.length ≤ 400) : (V.mk 2 0 s).lit = quoted s.data.toList := by simp [V.lit, may_text h]
theorem lit_blob {s : ByteArray} (h : s.data.toList.length ≤ 400) : (V.mk 3 0 s).lit = blobbed s.data.toList := by simp [V.lit, may_blob h]

theorem inner_quoted (x : List UInt8) : innerL (39 :: (x ++ [39])) 1 = x := by simp [innerL]
theorem inner_blobbed (x : List UInt8) : innerL (120 :: 39 :: (x ++ [39])) 2 = x := by simp [innerL]
theorem itoa_len2 {n : Int} (h0 : -9223372036854775808 ≤ n) (h1 : n ≤ 9223372036854775807) : (Lib.itoa n).length ≤ 1000 := by
  have key : ∀ u : Nat, u ≤ 9223372036854775808 → Lib.nDigits u ≤ 19 := by
    intro u hu
    rcases Nat.lt_or_ge 19 (Lib.nDigits u) with hlt | hge
    · exfalso
      have hb : ∀ (k u : Nat), u < 10 ^ (k + 1) → Lib.nDigits u ≤ k + 1 := by
        intro k
        induction k with
        | zero => intro u hu; rw [Lib.nDigits_small (by simpa using hu)]; omega
        | succ k ih =>
          intro u hu
          by_cases h : u < 10
          · rw [Lib.nDigits_small h]; omega
          · rw [Lib.nDigits_big h]
            have := ih (u / 10) (by rw [Nat.pow_succ] at hu; omega)
            omega
      have := hb 18 u (by omega)
      omega
    · exact hge
  unfold Lib.itoa
  split
  · have := key n.natAbs (by omega)
    rw [List.length_cons, Lib.decDigits_length]; omega
  · have := key n.toNat (by omega)
    rw [Lib.decDigits_length]; omega
theorem quoted_len2 (x : List UInt8) : (quoted x).length = (dbl x).length + 2 := by simp [quoted]
theorem blobbed_len (x : List UInt8) : (blobbed x).length = 2 * x.length + 3 := by simp [blobbed, hexs_len]
theorem guessV_lit {v : V} (h : v.may = true) (hf : v.fit) : guessV v.lit = v := by
  rcases may_four h with rfl | ⟨n, rfl⟩ | ⟨s, hs, rfl⟩ | ⟨s, hs, rfl⟩
  · rw [lit_null]
    exact guessV_none (pIntO_no 78 _ (by decide) (by decide) (by decide)) (by decide) (.inr (by decide))
  · rw [lit_int]
    exact guessV_int (pIntO_itoa n hf.1 hf.2)
  · rw [lit_text hs, quoted, guessV_text (pIntO_no 39 _ (by decide) (by decide) (by decide)) (by simp) rfl, inner_quoted, undbl_dbl, arr_self]
  · rw [lit_blob hs, blobbed, guessV_blob (b := s.data.toList) (pIntO_no 120 _ (by decide) (by decide) (by decide)) (by simp) rfl (by rw [inner_blobbed, unhex_hexs]), arr_self]
theorem lit_len2 {v : V} (h : v.may = true) (hf : v.fit) : v.lit.length ≤ 1000 := by
  rcases may_four h with rfl | ⟨n, rfl⟩ | ⟨s, hs, rfl⟩ | ⟨s, hs, rfl⟩
  · simp [lit_null]
  · rw [lit_int]; exact itoa_len2 hf.1 hf.2
  · rw [lit_text hs, quoted_len2]; have := dbl_len s.data.toList; omega
  · rw [lit_blob hs, blobbed_len]; omega
theorem readV_lit {v : V} (h : v.may = true) (hf : v.fit) : readV v.lit = some v := by
  unfold readV
  rw [guessV_lit h hf, if_pos ⟨lit_len2 h hf, h, rfl⟩]
theorem readV_sound {l : List UInt8} {v : V} (h : readV l = some v) : v.may = true ∧ v.fit ∧ v.lit = l := by
  unfold readV at h
  split at h
  · rename_i hh
    injection h with h
    subst h
    exact ⟨hh.2.1, guess_fit l, hh.2.2⟩
  · cases h
end Go.Proofs.YtkkildkleleppaaDoor
