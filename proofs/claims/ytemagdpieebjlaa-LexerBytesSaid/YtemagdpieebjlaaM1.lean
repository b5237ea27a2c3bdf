/- The reference's lexer: the contracts of in, only, Plain, value and quoted. -/
import Derived.Test.YtemagdpieebjlaaLT
import Derived.Test.YtemagdpieebjlaaVQ
namespace Go.Proofs.Ytemagdpieebjlaa
open Go Go.W

theorem nil_drop {s : ByteArray} {k : Nat} (hl : (bl s).drop k = []) : s.size ≤ k := by
  have := congrArg List.length hl
  rw [List.length_drop, bl_len] at this
  simp at this
  omega
theorem r_in (c : UInt8) (s : ByteArray) (hsm : s.size ≤ 1000000) (w : World) : Calls Try.prog n_enthymemeref09_in #[.int .u8 (c.toNat : Int), .string s] w fun r w' => r = .returned (.bool ((bl s).contains c)) ∧ w = w' := by
  refine enthymemeref09_in.ok _ _ w _ ?_
  have loop : ∀ (l : List UInt8) (k : Nat), (bl s).drop k = l → k ≤ s.size → ∀ R : Post, R (.returned (.bool (l.contains c))) w → enthymemeref09_in.L2 (c.toNat : Int) s (k : Int) w R := by
    intro l
    induction l with
    | nil =>
      intro k hl hk R hR
      have := nil_drop hl
      exact enthymemeref09_in.L2_step _ _ _ _ _ (sel_false (decide_eq_false (by omega)) hR)
    | cons d l ih =>
      intro k hl hk R hR
      obtain ⟨gc, hl1, hsz⟩ := get_drop hl
      refine enthymemeref09_in.L2_step _ _ _ _ _ (sel_true (decide_eq_true (by omega)) ⟨by omega, d, by rw [Int.toNat_natCast]; exact gc, sel_eq (fun h => ?_) (fun h => ?_)⟩)
      · have : d = c := UInt8.toNat_inj.1 (by omega)
        subst this
        simpa using hR
      · have : ¬ c = d := fun e => by subst e; exact h rfl
        show enthymemeref09_in.L2 _ _ (IntKind.wrap .i64 ((k : Int) + 1)) _ _
        rw [i64_next k (by omega)]
        refine ih (k + 1) hl1 (by omega) R ?_
        rw [List.contains_cons, show (c == d) = false from by simpa using this, Bool.false_or] at hR
        exact hR
  exact loop (bl s) 0 rfl (by omega) _ ⟨rfl, rfl⟩
theorem r_only (s o : ByteArray) (hsm : s.size ≤ 1000000) (hso : o.size ≤ 1000000) (w : World) : Calls Try.prog n_enthymemeref09_only #[.string s, .string o] w fun r w' => r = .returned (.bool ((bl s).all fun c => (bl o).contains c)) ∧ w = w' := by
  refine enthymemeref09_only.ok _ _ w _ ?_
  have loop : ∀ (l : List UInt8) (k : Nat), (bl s).drop k = l → k ≤ s.size → ∀ R : Post, R (.returned (.bool (l.all fun c => (bl o).contains c))) w → enthymemeref09_only.L2 s o (k : Int) w R := by
    intro l
    induction l with
    | nil =>
      intro k hl hk R hR
      have := nil_drop hl
      exact enthymemeref09_only.L2_step _ _ _ _ _ (sel_false (decide_eq_false (by omega)) hR)
    | cons d l ih =>
      intro k hl hk R hR
      obtain ⟨gc, hl1, hsz⟩ := get_drop hl
      refine enthymemeref09_only.L2_step _ _ _ _ _ (sel_true (decide_eq_true (by omega)) ⟨by omega, d, by rw [Int.toNat_natCast]; exact gc, (r_in d o hso w).mono ?_⟩)
      rintro r w1 ⟨rfl, rfl⟩
      rw [List.all_cons] at hR
      refine ⟨_, rfl, sel_not (fun h => ?_) (fun h => ?_)⟩
      · rw [h] at hR; exact hR
      · rw [h, Bool.true_and] at hR
        show enthymemeref09_only.L2 _ _ (IntKind.wrap .i64 ((k : Int) + 1)) _ _
        rw [i64_next k (by omega)]
        exact ih (k + 1) hl1 (by omega) R hR
  exact loop (bl s) 0 rfl (by omega) _ ⟨rfl, rfl⟩
abbrev lettersL : List UInt8 := [97, 98, 99, 100, 101, 102, 103, 104, 105, 106, 107, 108, 109, 110, 111, 112, 113, 114, 115, 116, 117, 118, 119, 120, 121, 122]
abbrev digitsL : List UInt8 := [48, 49, 50, 51, 52, 53, 54, 55, 56, 57]
theorem c_letters (c : UInt8) : lettersL.contains c = smallB c := all_bytes (p := fun c => lettersL.contains c = smallB c) (by decide +kernel) c
theorem c_digits (c : UInt8) : digitsL.contains c = digB 10 c := all_bytes (p := fun c => digitsL.contains c = digB 10 c) (by decide +kernel) c
theorem c_bin (c : UInt8) : ([48, 49] : List UInt8).contains c = digB 2 c := all_bytes (p := fun c => ([48, 49] : List UInt8).contains c = digB 2 c) (by decide +kernel) c
theorem c_hex (c : UInt8) : (digitsL ++ [97, 98, 99, 100, 101, 102]).contains c = digB 16 c := all_bytes (p := fun c => (digitsL ++ [97, 98, 99, 100, 101, 102]).contains c = digB 16 c) (by decide +kernel) c
theorem c_word (c : UInt8) : ((lettersL ++ digitsL) ++ [45]).contains c = (smallB c || digB 10 c || c.toNat == 45) := all_bytes (p := fun c => ((lettersL ++ digitsL) ++ [45]).contains c = (smallB c || digB 10 c || c.toNat == 45)) (by decide +kernel) c
theorem c_all (c : UInt8) : (lettersL ++ digitsL ++ [45, 35]).contains c = wordB c := all_bytes (p := fun c => (lettersL ++ digitsL ++ [45, 35]).contains c = wordB c) (by decide +kernel) c
theorem c_space (c : UInt8) : ([9, 10, 13, 32] : List UInt8).contains c = spaceB c := all_bytes (p := fun c => ([9, 10, 13, 32] : List UInt8).contains c = spaceB c) (by decide +kernel) c
theorem c_follow (c : UInt8) : ([9, 10, 13, 32, 59, 40, 41, 34] : List UInt8).contains c = followB c := all_bytes (p := fun c => ([9, 10, 13, 32, 59, 40, 41, 34] : List UInt8).contains c = followB c) (by decide +kernel) c
theorem small_dig (c : UInt8) : smallB c = true → digB 10 c = false := all_bytes (p := fun c => smallB c = true → digB 10 c = false) (by decide +kernel) c
theorem bl_app (a b : ByteArray) : bl (a ++ b) = bl a ++ bl b := by simp [bl]
theorem word_any : ∀ t : List UInt8, (∀ x ∈ t, wordB x = true) → (t.all fun c => smallB c || digB 10 c || c.toNat == 45) = !(t.any fun x => x.toNat == 35)
  | [], _ => rfl
  | c :: t, h => by
    rw [List.all_cons, List.any_cons, word_any t (fun x hx => h x (by simp [hx]))]
    have hc := h c (by simp)
    have : (smallB c || digB 10 c || c.toNat == 45) = !(c.toNat == 35) := by
      revert hc
      exact all_bytes (p := fun c => wordB c = true → (smallB c || digB 10 c || c.toNat == 45) = !(c.toNat == 35)) (by decide +kernel) c
    rw [this, Bool.not_or]
theorem r_Plain (s : ByteArray) (w : World) (hne : bl s ≠ []) (hw : ∀ x ∈ bl s, wordB x = true) (hsm : s.size ≤ 1000000) : Calls Try.prog n_enthymemeref09_Plain #[.string s] w fun r w' => r = .returned (.tuple #[.int .i64 (exam (bl s)).1, .int .i64 (exam (bl s)).2]) ∧ w = w' := by
  obtain ⟨c, l, hl⟩ : ∃ c l, bl s = c :: l := by cases h : bl s with | nil => exact absurd h hne | cons c l => exact ⟨c, l, rfl⟩
  have g0 : s[Int.toNat 0]? = some c := by rw [bl_get hl]; rfl
  have hsize : s.size = l.length + 1 := by rw [← bl_len, hl]; rfl
  refine enthymemeref09_Plain.ok _ w _ ⟨by decide, by decide, (r_only s _ hsm (by decide) w).mono ?_⟩
  rintro r w1 ⟨rfl, rfl⟩
  refine ⟨_, rfl, by decide, c, g0, (r_in c _ (by decide) w).mono ?_⟩
  rintro r w1 ⟨rfl, rfl⟩
  refine ⟨_, rfl, ?_⟩
  have e1 : ((bl s).all fun x => (bl ((ByteArray.mk #[97, 98, 99, 100, 101, 102, 103, 104, 105, 106, 107, 108, 109, 110, 111, 112, 113, 114, 115, 116, 117, 118, 119, 120, 121, 122] ++ ByteArray.mk #[48, 49, 50, 51, 52, 53, 54, 55, 56, 57]) ++ ByteArray.mk #[45])).contains x) = !((bl s).any fun x => x.toNat == 35) := by
    rw [← word_any _ hw]
    congr 1
    funext x
    rw [bl_app, bl_app]
    exact c_word x
  have e2 : (bl (ByteArray.mk #[97, 98, 99, 100, 101, 102, 103, 104, 105, 106, 107, 108, 109, 110, 111, 112, 113, 114, 115, 116, 117, 118, 119, 120, 121, 122])).contains c = smallB c := c_letters c
  rw [e1, e2, hl]
  have rest : ∀ q : Int × Int, (q = if !((c :: l).all (digB 10)) || (c.toNat == 48 && decide (1 < (c :: l).length)) then (0, 2) else if 13 < (c :: l).length then (0, 4) else (4, 0)) → enthymemeref09_Plain.S16 s (ByteArray.mk #[48, 49, 50, 51, 52, 53, 54, 55, 56, 57]) w fun r w' => r = .returned (.tuple #[.int .i64 q.1, .int .i64 q.2]) ∧ w = w' := by
    rintro q rfl
    refine (r_only s _ hsm (by decide) w).mono ?_
    rintro r w1 ⟨rfl, rfl⟩
    have e : ((bl s).all fun x => (bl (ByteArray.mk #[48, 49, 50, 51, 52, 53, 54, 55, 56, 57])).contains x) = (c :: l).all (digB 10) := by
      rw [hl]; congr 1; funext x; exact c_digits x
    rw [e]
    refine ⟨_, rfl, sel_intro (fun h1 => ?_) (fun h1 => ?_)⟩
    · have eight : ¬ (c.toNat == 48 && decide (1 < (c :: l).length)) = true → enthymemeref09_Plain.S18 s w fun r w' => r = .returned (.tuple #[.int .i64 (if !((c :: l).all (digB 10)) || (c.toNat == 48 && decide (1 < (c :: l).length)) then ((0, 2) : Int × Int) else if 13 < (c :: l).length then (0, 4) else (4, 0)).1, .int .i64 (if !((c :: l).all (digB 10)) || (c.toNat == 48 && decide (1 < (c :: l).length)) then ((0, 2) : Int × Int) else if 13 < (c :: l).length then (0, 4) else (4, 0)).2]) ∧ w = w' := fun h => by
        rw [if_neg (by rw [h1]; simpa using h)]
        refine sel_dec (fun h3 => ?_) (fun h3 => ?_)
        · rw [if_pos (by simp; omega)]; exact ⟨rfl, rfl⟩
        · rw [if_neg (by simp; omega)]; exact ⟨rfl, rfl⟩
      refine sel_eq (fun h2 => eight ?_) (fun h2 => ⟨by decide, c, g0, sel_ne (fun h3 => eight ?_) (fun h3 => ?_)⟩)
      · have : l.length = 0 := by omega
        simp [this]
      · have : c.toNat ≠ 48 := by omega
        simp [this]
      · have e48 : c.toNat = 48 := by omega
        have : 1 < (c :: l).length := by simp; omega
        rw [if_pos (by simp only [e48, this, decide_true]; simp)]
        exact ⟨rfl, rfl⟩
    · rw [if_pos (by rw [h1]; rfl)]
      exact ⟨rfl, rfl⟩
  by_cases hs : smallB c = true
  · have hc35 : c.toNat ≠ 35 := fun e => by unfold smallB at hs; simp [e] at hs
    have hd := small_dig c hs
    unfold exam
    simp only [hs, if_true]
    refine sel_intro (fun h1 => sel_true rfl ?_) (fun h1 => ?_)
    · rw [if_neg (by simpa using h1)]
      refine sel_dec (fun h3 => ?_) (fun h3 => ?_)
      · rw [if_pos (by simp; omega)]; exact ⟨rfl, rfl⟩
      · rw [if_neg (by simp; omega)]; exact ⟨rfl, rfl⟩
    · rw [if_pos (by rw [Bool.not_eq_false'] at h1; exact h1)]
      have r1 := rest (0, 2) (by rw [List.all_cons, hd]; rfl)
      refine sel_dec (fun h3 => ⟨by decide, c, g0, sel_false (by simp; omega) r1⟩) (fun h3 => r1)
  · have nine : enthymemeref09_Plain.S9 s (ByteArray.mk #[48, 49, 50, 51, 52, 53, 54, 55, 56, 57]) w fun r w' => r = .returned (.tuple #[.int .i64 (exam (c :: l)).1, .int .i64 (exam (c :: l)).2]) ∧ w = w' := by
      unfold exam
      simp only [hs, if_false, Bool.false_eq_true]
      by_cases h35 : c.toNat = 35
      · have hd : digB 10 c = false := by unfold digB; simp [h35]
        have r0 : ∀ q : Int × Int, q = (0, 2) → enthymemeref09_Plain.S16 s (ByteArray.mk #[48, 49, 50, 51, 52, 53, 54, 55, 56, 57]) w fun r w' => r = .returned (.tuple #[.int .i64 q.1, .int .i64 q.2]) ∧ w = w' := fun q hq => rest q (by rw [hq, List.all_cons, hd]; rfl)
        simp only [h35, ne_eq, not_true_eq_false, if_false]
        refine sel_dec (fun h3 => ⟨by decide, c, g0, sel_true (by simp [h35]) ?_⟩) (fun h3 => r0 _ ?_)
        · obtain ⟨b, d, r, rfl⟩ : ∃ b d r, l = b :: d :: r := by
            match l, hsize with
            | [], h => simp at h; omega
            | [x], h => simp at h; omega
            | b :: d :: r, _ => exact ⟨b, d, r, rfl⟩
          have g1 : s[Int.toNat 1]? = some b := by rw [bl_get hl]; rfl
          have ht : bl (s.extract (Int.toNat 2) s.size) = d :: r := by
            rw [bl_extract, List.take_of_length_le (by rw [bl_len]; omega), hl]; rfl
          have hts : (s.extract (Int.toNat 2) s.size).size ≤ 1000000 := by rw [← bl_len, ht]; simp at hsize ⊢; omega
          refine ⟨by decide, by omega, (r_only _ _ hts (by decide) w).mono ?_⟩
          rintro r1 w1 ⟨rfl, rfl⟩
          refine ⟨_, rfl, by decide, by omega, by decide, (r_only _ _ hts (by decide) w).mono ?_⟩
          rintro r1 w1 ⟨rfl, rfl⟩
          have e3 : ((bl (s.extract (Int.toNat 2) s.size)).all fun x => (bl (ByteArray.mk #[48, 49])).contains x) = (d :: r).all (digB 2) := by
            rw [ht]; congr 1; funext x; exact c_bin x
          have e4 : ((bl (s.extract (Int.toNat 2) s.size)).all fun x => (bl (ByteArray.mk #[48, 49, 50, 51, 52, 53, 54, 55, 56, 57] ++ ByteArray.mk #[97, 98, 99, 100, 101, 102])).contains x) = (d :: r).all (digB 16) := by
            rw [ht]; congr 1; funext x; rw [bl_app]; exact c_hex x
          rw [e3, e4]
          refine ⟨_, rfl, ?_⟩
          have hlen : s.size = (d :: r).length + 2 := by simp at hsize ⊢; omega
          unfold examH
          simp only
          have four : ∀ q : Int × Int, (q = if b.toNat = 98 then (if (d :: r).all (digB 2) then (3, 0) else (0, 2)) else if b.toNat = 120 then (if (d :: r).all (digB 16) then (3, 0) else (0, 2)) else (0, 2)) → enthymemeref09_Plain.S14 s (ByteArray.mk #[48, 49, 50, 51, 52, 53, 54, 55, 56, 57]) ((d :: r).all (digB 2)) ((d :: r).all (digB 16)) w fun r w' => r = .returned (.tuple #[.int .i64 q.1, .int .i64 q.2]) ∧ w = w' := by
            rintro q rfl
            refine ⟨by decide, b, g1, sel_eq (fun h98 => ?_) (fun h98 => ⟨by decide, b, g1, sel_eq (fun h120 => ?_) (fun h120 => ?_)⟩)⟩
            · have h98' : b.toNat = 98 := by omega
              rw [if_pos h98']
              refine sel_intro (fun h => ?_) (fun h => ⟨by decide, b, g1, sel_false (by simp; omega) (r0 _ ?_)⟩)
              · rw [if_pos h]; exact ⟨rfl, rfl⟩
              · have hn : ¬ (d :: r).all (digB 2) = true := by rw [h]; simp
                rw [if_neg hn]
            · have h120' : b.toNat = 120 := by omega
              have n98 : ¬ b.toNat = 98 := by omega
              rw [if_neg n98, if_pos h120']
              refine sel_intro (fun h => ?_) (fun h => r0 _ ?_)
              · rw [if_pos h]; exact ⟨rfl, rfl⟩
              · have hn : ¬ (d :: r).all (digB 16) = true := by rw [h]; simp
                rw [if_neg hn]
            · have n98 : ¬ b.toNat = 98 := by omega
              have n120 : ¬ b.toNat = 120 := by omega
              rw [if_neg n98, if_neg n120]
              exact r0 _ rfl
          refine ⟨by decide, b, g1, sel_eq (fun h98 => ?_) (fun h98 => ⟨by decide, b, g1, sel_eq (fun h120 => ?_) (fun h120 => ?_)⟩)⟩
          · have h98' : b.toNat = 98 := by omega
            have n120 : (((b.toNat : Nat) : Int) == 120) = false := by simp; omega
            rw [if_pos h98']
            refine sel_intro (fun h => ?_) (fun h => ⟨by decide, b, g1, sel_false n120 (four _ ?_)⟩)
            · rw [if_pos h]
              refine sel_dec (fun h3 => ?_) (fun h3 => ⟨by decide, b, g1, sel_false n120 (four _ ?_)⟩)
              · have h64 : 64 < (d :: r).length := by omega
                rw [if_pos h64]; exact ⟨rfl, rfl⟩
              · have h64 : ¬ 64 < (d :: r).length := by omega
                rw [if_neg h64, if_pos h98', if_pos h]
            · have hn : ¬ (d :: r).all (digB 2) = true := by rw [h]; simp
              rw [if_neg hn, if_pos h98', if_neg hn]
          · have h120' : b.toNat = 120 := by omega
            have n98 : ¬ b.toNat = 98 := by omega
            rw [if_neg n98, if_pos h120']
            refine sel_intro (fun h => ?_) (fun h => four _ ?_)
            · rw [if_pos h]
              refine sel_dec (fun h3 => ?_) (fun h3 => four _ ?_)
              · have h16 : 16 < (d :: r).length := by omega
                rw [if_pos h16]; exact ⟨rfl, rfl⟩
              · have h16 : ¬ 16 < (d :: r).length := by omega
                rw [if_neg h16, if_neg n98, if_pos h120', if_pos h]
            · have hn : ¬ (d :: r).all (digB 16) = true := by rw [h]; simp
              rw [if_neg hn, if_neg n98, if_pos h120', if_neg hn]
          · have n98 : ¬ b.toNat = 98 := by omega
            have n120 : ¬ b.toNat = 120 := by omega
            rw [if_neg n98, if_neg n120]
            exact four _ (by rw [if_neg n98, if_neg n120])
        · match l, hsize, h3 with
          | [], _, _ => rfl
          | [x], _, _ => rfl
          | b :: d :: r, h, h3 => simp at h; omega
      · simp only [h35, ne_eq, not_false_eq_true, if_true]
        have r1 := rest _ rfl
        exact sel_dec (fun h3 => ⟨by decide, c, g0, sel_false (by simp; omega) r1⟩) (fun h3 => r1)
    have hs' : smallB c = false := by simpa using hs
    refine sel_intro (fun h1 => ?_) (fun h1 => nine)
    rw [hs']
    exact nine
end Go.Proofs.Ytemagdpieebjlaa
