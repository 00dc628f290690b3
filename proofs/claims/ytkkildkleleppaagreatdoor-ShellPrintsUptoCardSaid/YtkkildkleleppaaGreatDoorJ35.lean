/- The list of verbs (printed by gen_vbs.py). The verb of a word: slices.IndexFunc over the list of verbs. -/
import Derived.Test.YtkkildkleleppaaGreatDoorJ34
namespace Go.Proofs.YtkkildkleleppaaGreatDoor
open Go.RowKit

/-- The verbs lie behind the slice's address. -/
def VerbsAt (w : World) (g : Nat) : Prop := ∀ i, i < 17 → ∃ K cap K' cap', w.cell? ⟨g, i * 3, none⟩ = some (.string ⟨(verbW i).toArray⟩) ∧ w.cell? ⟨g, i * 3 + 1, none⟩ = some (.func (.func K) #[] cap) ∧ w.cell? ⟨g, i * 3 + 2, none⟩ = some (.func (.func K') #[] cap') ∧ VerbP w i K cap K' cap'
theorem VerbsAt.below {w w' : World} {g : Nat} (h : VerbsAt w g) (hb : Below w.heap.size w w') : VerbsAt w' g := by
  intro i hi
  obtain ⟨K, cap, K', cap', h1, h2, h3, h4⟩ := h i hi
  exact ⟨K, cap, K', cap', (hb.cell (lt_of_cell h1)).trans h1, (hb.cell (lt_of_cell h2)).trans h2, (hb.cell (lt_of_cell h3)).trans h3, h4.below hb⟩
def VerbsE (w : World) (e : Ending) (w' : World) : Prop := ∃ g, e = .returned (.slice (some ⟨g, 0, none⟩) 17 17) ∧ VerbsAt w' g ∧ Below w.heap.size w w'
theorem tl {w w1 W : World} (h : Below w.heap.size w w1) (h2 : Below w1.heap.size w1 W) : Below w.heap.size w W := h.trans (h2.mono h.size)

set_option maxRecDepth 100000 in
set_option maxHeartbeats 4000000 in
theorem verbs_any (w : World) (hE : Env w) : Calls Tryz.prog 40 #[] w (VerbsE w) := by
  have C0 : Hid (∀ w', Env w' → Calls Tryz.prog 88 #[.string ⟨#[111, 112, 101, 110]⟩, .int .i64 1, .bool false, .func (.func 83) #[] #[], .func (.func 84) #[] #[]] w' (MadeV 0 w')) := Lib.hid (fun w' hE => eventVerb_any 0 (by omega) 83 84 tail0 wtail0 (ent_some (by kernel_rfl)) (ent_some (by kernel_rfl)) w' hE)
  have C1 : Hid (∀ w', Env w' → Calls Tryz.prog 88 #[.string ⟨#[99, 108, 111, 115, 101]⟩, .int .i64 2, .bool false, .func (.func 83) #[] #[], .func (.func 84) #[] #[]] w' (MadeV 1 w')) := Lib.hid (fun w' hE => eventVerb_any 1 (by omega) 83 84 tail0 wtail0 (ent_some (by kernel_rfl)) (ent_some (by kernel_rfl)) w' hE)
  have C2 : Hid (∀ w', Env w' → Calls Tryz.prog 88 #[.string ⟨#[101, 120, 101, 99]⟩, .int .i64 3, .bool false, .func (.func 85) #[] #[], .func (.func 87) #[] #[]] w' (MadeV 2 w')) := Lib.hid (fun w' hE => eventVerb_any 2 (by omega) 85 87 tail1 wtail1 (ent_some (by kernel_rfl)) (ent_some (by kernel_rfl)) w' hE)
  have C3 : Hid (∀ w', Env w' → Calls Tryz.prog 88 #[.string ⟨#[99, 97, 108, 108]⟩, .int .i64 3, .bool false, .func (.func 89) #[] #[], .func (.func 91) #[] #[]] w' (MadeV 3 w')) := Lib.hid (fun w' hE => eventVerb_any 3 (by omega) 89 91 tail2 wtail2 (ent_some (by kernel_rfl)) (ent_some (by kernel_rfl)) w' hE)
  have C4 : Hid (∀ w', Env w' → Calls Tryz.prog 88 #[.string ⟨#[112, 114, 101, 112, 97, 114, 101]⟩, .int .i64 4, .bool true, .func (.func 85) #[] #[], .func (.func 87) #[] #[]] w' (MadeV 4 w')) := Lib.hid (fun w' hE => eventVerb_any 4 (by omega) 85 87 tail1 wtail1 (ent_some (by kernel_rfl)) (ent_some (by kernel_rfl)) w' hE)
  have C5 : Hid (∀ w', Env w' → Calls Tryz.prog 88 #[.string ⟨#[98, 105, 110, 100]⟩, .int .i64 5, .bool true, .func (.func 92) #[] #[], .func (.func 93) #[] #[]] w' (MadeV 5 w')) := Lib.hid (fun w' hE => eventVerb_any 5 (by omega) 92 93 tail3 wtail3 (ent_some (by kernel_rfl)) (ent_some (by kernel_rfl)) w' hE)
  have C6 : Hid (∀ w', Env w' → Calls Tryz.prog 88 #[.string ⟨#[115, 116, 101, 112]⟩, .int .i64 6, .bool true, .func (.func 83) #[] #[], .func (.func 84) #[] #[]] w' (MadeV 6 w')) := Lib.hid (fun w' hE => eventVerb_any 6 (by omega) 83 84 tail0 wtail0 (ent_some (by kernel_rfl)) (ent_some (by kernel_rfl)) w' hE)
  have C7 : Hid (∀ w', Env w' → Calls Tryz.prog 88 #[.string ⟨#[114, 101, 115, 101, 116]⟩, .int .i64 7, .bool true, .func (.func 83) #[] #[], .func (.func 84) #[] #[]] w' (MadeV 7 w')) := Lib.hid (fun w' hE => eventVerb_any 7 (by omega) 83 84 tail0 wtail0 (ent_some (by kernel_rfl)) (ent_some (by kernel_rfl)) w' hE)
  have C8 : Hid (∀ w', Env w' → Calls Tryz.prog 88 #[.string ⟨#[102, 105, 110, 97, 108, 105, 122, 101]⟩, .int .i64 8, .bool true, .func (.func 83) #[] #[], .func (.func 84) #[] #[]] w' (MadeV 8 w')) := Lib.hid (fun w' hE => eventVerb_any 8 (by omega) 83 84 tail0 wtail0 (ent_some (by kernel_rfl)) (ent_some (by kernel_rfl)) w' hE)
  have C9 : Hid (∀ w', Calls Tryz.prog 94 #[.string ⟨#[99, 104, 101, 99, 107, 112, 111, 105, 110, 116]⟩, .agg #[.int .i64 1, .int .i64 1, .int .i64 9, .int .i64 0, .int .i64 0, .string ⟨#[]⟩, .slice none 0 0, .int .i64 0, .bool false, .slice none 0 0, .int .i64 0, .slice none 0 0]] w' (MadeV 9 w')) := Lib.hid (fun w' => plain_any 9 1 1 9 (fun _ => rfl) (fun _ => rfl) w')
  have C10 : Hid (∀ w', Calls Tryz.prog 94 #[.string ⟨#[99, 114, 97, 115, 104]⟩, .agg #[.int .i64 1, .int .i64 3, .int .i64 0, .int .i64 0, .int .i64 0, .string ⟨#[]⟩, .slice none 0 0, .int .i64 0, .bool false, .slice none 0 0, .int .i64 0, .slice none 0 0]] w' (MadeV 10 w')) := Lib.hid (fun w' => plain_any 10 1 3 0 (fun _ => rfl) (fun _ => rfl) w')
  have C11 : Hid (∀ w', Env w' → Calls Tryz.prog 97 #[.string ⟨#[99, 114, 97, 115, 104, 105, 110]⟩, .int .i64 2] w' (MadeV 11 w')) := Lib.hid (fun w' hE => counted_any 11 2 (fun _ => rfl) (fun _ => rfl) w' hE)
  have C12 : Hid (∀ w', Env w' → Calls Tryz.prog 97 #[.string ⟨#[114, 111, 111, 109]⟩, .int .i64 4] w' (MadeV 12 w')) := Lib.hid (fun w' hE => counted_any 12 4 (fun _ => rfl) (fun _ => rfl) w' hE)
  have C14 : Hid (∀ w', Calls Tryz.prog 94 #[.string ⟨#[99, 111, 110, 116, 101, 110, 116]⟩, .agg #[.int .i64 2, .int .i64 0, .int .i64 0, .int .i64 0, .int .i64 0, .string ⟨#[]⟩, .slice none 0 0, .int .i64 0, .bool false, .slice none 0 0, .int .i64 0, .slice none 0 0]] w' (MadeV 14 w')) := Lib.hid (fun w' => plain_any 14 2 0 0 (fun _ => rfl) (fun _ => rfl) w')
  have C15 : Hid (∀ w', Calls Tryz.prog 94 #[.string ⟨#[108, 97, 115, 116]⟩, .agg #[.int .i64 3, .int .i64 0, .int .i64 0, .int .i64 0, .int .i64 0, .string ⟨#[]⟩, .slice none 0 0, .int .i64 0, .bool false, .slice none 0 0, .int .i64 0, .slice none 0 0]] w' (MadeV 15 w')) := Lib.hid (fun w' => plain_any 15 3 0 0 (fun _ => rfl) (fun _ => rfl) w')
  have CE : Hid (∀ w', Calls Tryz.prog 95 #[.agg #[.int .i64 9, .int .i64 0, .int .i64 0, .string ⟨#[]⟩, .slice none 0 0]] w' (Ret w' (.agg #[.int .i64 1, .int .i64 1, .int .i64 9, .int .i64 0, .int .i64 0, .string ⟨#[]⟩, .slice none 0 0, .int .i64 0, .bool false, .slice none 0 0, .int .i64 0, .slice none 0 0]))) := Lib.hid (fun w' => event_any 9 0 0 ⟨#[]⟩ none 0 0 w')
  have CA : Hid (∀ w', Calls Tryz.prog 96 #[.agg #[.int .i64 3, .int .i64 0, .int .i64 0, .int .i64 0, .string ⟨#[]⟩, .slice none 0 0, .int .i64 0, .bool false, .slice none 0 0]] w' (Ret w' (.agg #[.int .i64 1, .int .i64 3, .int .i64 0, .int .i64 0, .int .i64 0, .string ⟨#[]⟩, .slice none 0 0, .int .i64 0, .bool false, .slice none 0 0, .int .i64 0, .slice none 0 0]))) := Lib.hid (fun w' => act_any 3 0 0 0 0 ⟨#[]⟩ none none 0 0 0 0 false w')
  have HE0 := Lib.hid hE
  clear hE
  go_enter Tryz.func40, Tryz.ntmps40
  go_wp2_with (first
    | (go_at_call_of 88 (Value.string { data := #[111, 112, 101, 110] }); refine (C0.out _ HE0.out).mono ?_; rintro e w1 ⟨K0, p0, L0, q0, rfl, hv0, hb1⟩; have HV0 := Lib.hid hv0; clear hv0; have HE1 := Lib.hid (HE0.out.below hb1))
    | (go_at_call_of 88 (Value.string { data := #[99, 108, 111, 115, 101] }); refine (C1.out _ HE1.out).mono ?_; rintro e w2 ⟨K1, p1, L1, q1, rfl, hv1, hb2⟩; have HV1 := Lib.hid hv1; clear hv1; have HE2 := Lib.hid (HE1.out.below hb2))
    | (go_at_call_of 88 (Value.string { data := #[101, 120, 101, 99] }); refine (C2.out _ HE2.out).mono ?_; rintro e w3 ⟨K2, p2, L2, q2, rfl, hv2, hb3⟩; have HV2 := Lib.hid hv2; clear hv2; have HE3 := Lib.hid (HE2.out.below hb3))
    | (go_at_call_of 88 (Value.string { data := #[99, 97, 108, 108] }); refine (C3.out _ HE3.out).mono ?_; rintro e w4 ⟨K3, p3, L3, q3, rfl, hv3, hb4⟩; have HV3 := Lib.hid hv3; clear hv3; have HE4 := Lib.hid (HE3.out.below hb4))
    | (go_at_call_of 88 (Value.string { data := #[112, 114, 101, 112, 97, 114, 101] }); refine (C4.out _ HE4.out).mono ?_; rintro e w5 ⟨K4, p4, L4, q4, rfl, hv4, hb5⟩; have HV4 := Lib.hid hv4; clear hv4; have HE5 := Lib.hid (HE4.out.below hb5))
    | (go_at_call_of 88 (Value.string { data := #[98, 105, 110, 100] }); refine (C5.out _ HE5.out).mono ?_; rintro e w6 ⟨K5, p5, L5, q5, rfl, hv5, hb6⟩; have HV5 := Lib.hid hv5; clear hv5; have HE6 := Lib.hid (HE5.out.below hb6))
    | (go_at_call_of 88 (Value.string { data := #[115, 116, 101, 112] }); refine (C6.out _ HE6.out).mono ?_; rintro e w7 ⟨K6, p6, L6, q6, rfl, hv6, hb7⟩; have HV6 := Lib.hid hv6; clear hv6; have HE7 := Lib.hid (HE6.out.below hb7))
    | (go_at_call_of 88 (Value.string { data := #[114, 101, 115, 101, 116] }); refine (C7.out _ HE7.out).mono ?_; rintro e w8 ⟨K7, p7, L7, q7, rfl, hv7, hb8⟩; have HV7 := Lib.hid hv7; clear hv7; have HE8 := Lib.hid (HE7.out.below hb8))
    | (go_at_call_of 88 (Value.string { data := #[102, 105, 110, 97, 108, 105, 122, 101] }); refine (C8.out _ HE8.out).mono ?_; rintro e w9 ⟨K8, p8, L8, q8, rfl, hv8, hb9⟩; have HV8 := Lib.hid hv8; clear hv8; have HE9 := Lib.hid (HE8.out.below hb9))
    | (go_at_call 95; refine (CE.out _).mono ?_; rintro e w10 ⟨rfl, hb10⟩; have HE10 := Lib.hid (HE9.out.below hb10))
    | (go_at_call_of 94 (Value.string { data := #[99, 104, 101, 99, 107, 112, 111, 105, 110, 116] }); refine (C9.out _).mono ?_; rintro e w11 ⟨K9, p9, L9, q9, rfl, hv9, hb11⟩; have HV9 := Lib.hid hv9; clear hv9; have HE11 := Lib.hid (HE10.out.below hb11))
    | (go_at_call 96; refine (CA.out _).mono ?_; rintro e w12 ⟨rfl, hb12⟩; have HE12 := Lib.hid (HE11.out.below hb12))
    | (go_at_call_of 94 (Value.string { data := #[99, 114, 97, 115, 104] }); refine (C10.out _).mono ?_; rintro e w13 ⟨K10, p10, L10, q10, rfl, hv10, hb13⟩; have HV10 := Lib.hid hv10; clear hv10; have HE13 := Lib.hid (HE12.out.below hb13))
    | (go_at_call_of 97 (Value.string { data := #[99, 114, 97, 115, 104, 105, 110] }); refine (C11.out _ HE13.out).mono ?_; rintro e w14 ⟨K11, p11, L11, q11, rfl, hv11, hb14⟩; have HV11 := Lib.hid hv11; clear hv11; have HE14 := Lib.hid (HE13.out.below hb14))
    | (go_at_call_of 97 (Value.string { data := #[114, 111, 111, 109] }); refine (C12.out _ HE14.out).mono ?_; rintro e w15 ⟨K12, p12, L12, q12, rfl, hv12, hb15⟩; have HV12 := Lib.hid hv12; clear hv12; have HE15 := Lib.hid (HE14.out.below hb15))
    | (go_at_call_of 94 (Value.string { data := #[99, 111, 110, 116, 101, 110, 116] }); refine (C14.out _).mono ?_; rintro e w16 ⟨K14, p14, L14, q14, rfl, hv14, hb16⟩; have HV14 := Lib.hid hv14; clear hv14; have HE16 := Lib.hid (HE15.out.below hb16))
    | (go_at_call_of 94 (Value.string { data := #[108, 97, 115, 116] }); refine (C15.out _).mono ?_; rintro e w17 ⟨K15, p15, L15, q15, rfl, hv15, hb17⟩; have HV15 := Lib.hid hv15; clear hv15; have HE17 := Lib.hid (HE16.out.below hb17))
    )
  go_ret
  refine ⟨w17.heap.size, rfl, ?_, ?_⟩
  · intro i hi
    match i, hi with
    | 0, _ => exact ⟨_, _, _, _, Blk.cell (Blk.new _ _ _) 0, Blk.cell (Blk.new _ _ _) 1, Blk.cell (Blk.new _ _ _) 2, (HV0.out.below (tl hb2 (tl hb3 (tl hb4 (tl hb5 (tl hb6 (tl hb7 (tl hb8 (tl hb9 (tl hb10 (tl hb11 (tl hb12 (tl hb13 (tl hb14 (tl hb15 (tl hb16 (tl hb17 (below_alloc _ _))))))))))))))))))⟩
    | 1, _ => exact ⟨_, _, _, _, Blk.cell (Blk.new _ _ _) 3, Blk.cell (Blk.new _ _ _) 4, Blk.cell (Blk.new _ _ _) 5, (HV1.out.below (tl hb3 (tl hb4 (tl hb5 (tl hb6 (tl hb7 (tl hb8 (tl hb9 (tl hb10 (tl hb11 (tl hb12 (tl hb13 (tl hb14 (tl hb15 (tl hb16 (tl hb17 (below_alloc _ _)))))))))))))))))⟩
    | 2, _ => exact ⟨_, _, _, _, Blk.cell (Blk.new _ _ _) 6, Blk.cell (Blk.new _ _ _) 7, Blk.cell (Blk.new _ _ _) 8, (HV2.out.below (tl hb4 (tl hb5 (tl hb6 (tl hb7 (tl hb8 (tl hb9 (tl hb10 (tl hb11 (tl hb12 (tl hb13 (tl hb14 (tl hb15 (tl hb16 (tl hb17 (below_alloc _ _))))))))))))))))⟩
    | 3, _ => exact ⟨_, _, _, _, Blk.cell (Blk.new _ _ _) 9, Blk.cell (Blk.new _ _ _) 10, Blk.cell (Blk.new _ _ _) 11, (HV3.out.below (tl hb5 (tl hb6 (tl hb7 (tl hb8 (tl hb9 (tl hb10 (tl hb11 (tl hb12 (tl hb13 (tl hb14 (tl hb15 (tl hb16 (tl hb17 (below_alloc _ _)))))))))))))))⟩
    | 4, _ => exact ⟨_, _, _, _, Blk.cell (Blk.new _ _ _) 12, Blk.cell (Blk.new _ _ _) 13, Blk.cell (Blk.new _ _ _) 14, (HV4.out.below (tl hb6 (tl hb7 (tl hb8 (tl hb9 (tl hb10 (tl hb11 (tl hb12 (tl hb13 (tl hb14 (tl hb15 (tl hb16 (tl hb17 (below_alloc _ _))))))))))))))⟩
    | 5, _ => exact ⟨_, _, _, _, Blk.cell (Blk.new _ _ _) 15, Blk.cell (Blk.new _ _ _) 16, Blk.cell (Blk.new _ _ _) 17, (HV5.out.below (tl hb7 (tl hb8 (tl hb9 (tl hb10 (tl hb11 (tl hb12 (tl hb13 (tl hb14 (tl hb15 (tl hb16 (tl hb17 (below_alloc _ _)))))))))))))⟩
    | 6, _ => exact ⟨_, _, _, _, Blk.cell (Blk.new _ _ _) 18, Blk.cell (Blk.new _ _ _) 19, Blk.cell (Blk.new _ _ _) 20, (HV6.out.below (tl hb8 (tl hb9 (tl hb10 (tl hb11 (tl hb12 (tl hb13 (tl hb14 (tl hb15 (tl hb16 (tl hb17 (below_alloc _ _))))))))))))⟩
    | 7, _ => exact ⟨_, _, _, _, Blk.cell (Blk.new _ _ _) 21, Blk.cell (Blk.new _ _ _) 22, Blk.cell (Blk.new _ _ _) 23, (HV7.out.below (tl hb9 (tl hb10 (tl hb11 (tl hb12 (tl hb13 (tl hb14 (tl hb15 (tl hb16 (tl hb17 (below_alloc _ _)))))))))))⟩
    | 8, _ => exact ⟨_, _, _, _, Blk.cell (Blk.new _ _ _) 24, Blk.cell (Blk.new _ _ _) 25, Blk.cell (Blk.new _ _ _) 26, (HV8.out.below (tl hb10 (tl hb11 (tl hb12 (tl hb13 (tl hb14 (tl hb15 (tl hb16 (tl hb17 (below_alloc _ _))))))))))⟩
    | 9, _ => exact ⟨_, _, _, _, Blk.cell (Blk.new _ _ _) 27, Blk.cell (Blk.new _ _ _) 28, Blk.cell (Blk.new _ _ _) 29, (HV9.out.below (tl hb12 (tl hb13 (tl hb14 (tl hb15 (tl hb16 (tl hb17 (below_alloc _ _))))))))⟩
    | 10, _ => exact ⟨_, _, _, _, Blk.cell (Blk.new _ _ _) 30, Blk.cell (Blk.new _ _ _) 31, Blk.cell (Blk.new _ _ _) 32, (HV10.out.below (tl hb14 (tl hb15 (tl hb16 (tl hb17 (below_alloc _ _))))))⟩
    | 11, _ => exact ⟨_, _, _, _, Blk.cell (Blk.new _ _ _) 33, Blk.cell (Blk.new _ _ _) 34, Blk.cell (Blk.new _ _ _) 35, (HV11.out.below (tl hb15 (tl hb16 (tl hb17 (below_alloc _ _)))))⟩
    | 12, _ => exact ⟨_, _, _, _, Blk.cell (Blk.new _ _ _) 36, Blk.cell (Blk.new _ _ _) 37, Blk.cell (Blk.new _ _ _) 38, (HV12.out.below (tl hb16 (tl hb17 (below_alloc _ _))))⟩
    | 13, _ => exact ⟨_, _, _, _, Blk.cell (Blk.new _ _ _) 39, Blk.cell (Blk.new _ _ _) 40, Blk.cell (Blk.new _ _ _) 41, ((restart_verb w17 HE17.out).below (below_alloc _ _))⟩
    | 14, _ => exact ⟨_, _, _, _, Blk.cell (Blk.new _ _ _) 42, Blk.cell (Blk.new _ _ _) 43, Blk.cell (Blk.new _ _ _) 44, (HV14.out.below (tl hb17 (below_alloc _ _)))⟩
    | 15, _ => exact ⟨_, _, _, _, Blk.cell (Blk.new _ _ _) 45, Blk.cell (Blk.new _ _ _) 46, Blk.cell (Blk.new _ _ _) 47, (HV15.out.below (below_alloc _ _))⟩
    | 16, _ => exact ⟨_, _, _, _, Blk.cell (Blk.new _ _ _) 48, Blk.cell (Blk.new _ _ _) 49, Blk.cell (Blk.new _ _ _) 50, ((load_verb w17 HE17.out).below (below_alloc _ _))⟩
    | i + 17, hi => omega
  · exact (tl hb1 (tl hb2 (tl hb3 (tl hb4 (tl hb5 (tl hb6 (tl hb7 (tl hb8 (tl hb9 (tl hb10 (tl hb11 (tl hb12 (tl hb13 (tl hb14 (tl hb15 (tl hb16 (tl hb17 (below_alloc _ _))))))))))))))))))
end Go.Proofs.YtkkildkleleppaaGreatDoor
namespace Go.Proofs.YtkkildkleleppaaGreatDoor
open Go.RowKit

theorem verbNo_hit {w : List UInt8} {k : Nat} (hk : k < 17) (h : verbW k = w) (hb : ∀ j, j < k → verbW j ≠ w) : verbNo w = some k := by
  unfold verbNo
  rw [List.find?_eq_some_iff_getElem]
  refine ⟨by simp [h], k, by simpa using hk, by simp, fun j hj => ?_⟩
  simp only [List.getElem_range, Bool.not_eq_true']
  exact beq_eq_false_iff_ne.2 (hb j hj)
theorem verbNo_none {w : List UInt8} (h : ∀ j, j < 17 → verbW j ≠ w) : verbNo w = none := by
  unfold verbNo
  rw [List.find?_eq_none]
  intro j hj
  simpa using h j (List.mem_range.1 hj)
def idxOf (w : List UInt8) : Int := match verbNo w with | some i => i | none => -1

theorem match1_any (a wd : List UInt8) (K K' : FuncId) (cap cap' : Array Value) (p : Nat) (w : World) (h : w.cell? ⟨p, 0, none⟩ = some (.string ⟨wd.toArray⟩)) :
    Calls Tryz.prog 42 #[.agg #[.string ⟨a.toArray⟩, .func (.func K) #[] cap, .func (.func K') #[] cap'], .pointer (some ⟨p, 0, none⟩)] w (Ret w (.bool (a == wd))) := by
  have k := cell_alloc (.cells #[.string ⟨a.toArray⟩, .func (.func K) #[] cap, .func (.func K') #[] cap'] 105) h
  clear h
  go_enter Tryz.func42, Tryz.ntmps42
  go_wp2
  go_ret
  exact ⟨rfl, below_alloc _ _⟩

set_option maxRecDepth 100000 in
set_option maxHeartbeats 1000000 in
theorem index_any (g p : Nat) (wd : List UInt8) (w : World) (hv : VerbsAt w g) (h : w.cell? ⟨p, 0, none⟩ = some (.string ⟨wd.toArray⟩)) :
    Calls Tryz.prog 41 #[.slice (some ⟨g, 0, none⟩) 17 17, .func (.func 42) #[] #[.pointer (some ⟨p, 0, none⟩)]] w (Ret w (.int .i64 (idxOf wd))) := by
  have HV := Lib.hid hv
  have HP := Lib.hid h
  clear hv h
  go_enter Tryz.func41, Tryz.ntmps41
  go_wp2
  go_loopw [5, 8] (fun _ i wr => ∃ k : Nat, k ≤ 17 ∧ i = .int .i64 k ∧ Below w.heap.size w wr ∧ Hid (∀ j, j < k → verbW j ≠ wd)) (fun _ i _ => 17 - (intOf i).toNat)
  case atStart => exact ⟨0, by omega, rfl, Below.refl _ _, Lib.hid (by intro j hj; omega)⟩
  case round =>
    obtain ⟨k, hk, rfl, hb, HA⟩ := hrel
    by_cases hlt : k < 17
    · obtain ⟨K, cap, K', cap', c0, c1, c2, -⟩ := HV.out.below hb k hlt
      have HM := Lib.hid (match1_any (verbW k) wd K K' cap cap' p wr ((hb.cell (lt_of_cell HP.out)).trans HP.out))
      by_cases he : verbW k = wd
      · have HN : Hid (idxOf wd = k) := Lib.hid (by rw [idxOf, verbNo_hit hlt he HA.out])
        have ht : (verbW k == wd) = true := by simp [he]
        rw [ht] at HM
        clear he ht
        go_wp2_with (go_at_call 42; refine HM.out.mono ?_; rintro e w2 ⟨rfl, hb2⟩)
        go_ret
        exact ⟨by rw [HN.out]; rfl, hb.trans (hb2.mono hb.size)⟩
      · have HA2 : Hid (∀ j, j < k + 1 → verbW j ≠ wd) := Lib.hid (by
          intro j hj
          by_cases hjk : j = k
          · subst hjk; exact he
          · exact HA.out j (by omega))
        have ht : (verbW k == wd) = false := by simp [he]
        rw [ht] at HM
        clear he ht
        go_wp2_with (go_at_call 42; refine HM.out.mono ?_; rintro e w2 ⟨rfl, hb2⟩)
        go_roundw
        case rel => exact ⟨k + 1, by omega, by go_num, hb.trans (hb2.mono hb.size), HA2⟩
        case measure => simp [intOf]; omega
    · have hkn : k = 17 := by omega
      subst hkn
      have HN : Hid (idxOf wd = -1) := Lib.hid (by rw [idxOf, verbNo_none HA.out])
      go_wp2
      go_ret
      exact ⟨by rw [HN.out]; rfl, hb⟩
end Go.Proofs.YtkkildkleleppaaGreatDoor
