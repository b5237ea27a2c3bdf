/- Package lexer: the contract of examine. -/
import Derived.Test.YtemagdpieebjlaaLB
namespace Go.Proofs.Ytemagdpieebjlaa
open Go Go.W

theorem bl_get {s : ByteArray} {l : List UInt8} (h : bl s = l) (i : Nat) : s[i]? = l[i]? := by
  subst h
  by_cases hi : i < s.size
  · rw [getElem?_pos s i hi, List.getElem?_eq_getElem (by rw [bl_len]; exact hi)]; rfl
  · rw [getElem?_neg s i hi, List.getElem?_eq_none (by rw [bl_len]; omega)]
theorem bl_extract (s : ByteArray) (i j : Nat) : bl (s.extract i j) = ((bl s).take j).drop i := by
  unfold bl
  rw [ByteArray.data_extract, Array.toList_extract, List.extract_eq_drop_take']
theorem l_examine (s : ByteArray) (w : World) (h0 : bl s ≠ []) (hw : ∀ c ∈ bl s, wordB c = true) (hsm : s.size ≤ 1000000) : Calls Try.prog n_lexer_examine #[.string s] w fun r w' => r = .returned (.tuple #[.int .i64 (exam (bl s)).1, .int .i64 (exam (bl s)).2]) ∧ Fr0 w w' := by
  obtain ⟨c, l, hl⟩ : ∃ c l, bl s = c :: l := by
    cases h : bl s with
    | nil => exact absurd h h0
    | cons c l => exact ⟨c, l, rfl⟩
  have ha : ∀ x ∈ bl s, x.toNat < 128 := fun x hx => by
    have := hw x hx
    unfold wordB smallB digB at this
    simp at this
    omega
  have hsz : s.size = l.length + 1 := by rw [← bl_len, hl]; rfl
  have g0 : s[0]? = some c := by rw [bl_get hl]; rfl
  refine lexer_examine.ok _ w _ ⟨by omega, c, g0, (l_small c w).mono ?_⟩
  rintro r w1 ⟨rfl, rfl⟩
  refine ⟨_, rfl, sel_intro (fun hs => ?_) (fun hs => ?_)⟩
  · refine (s_indexByte s 35 w).mono ?_
    rintro r w1 ⟨rfl, rfl⟩
    refine ⟨_, rfl, sel_intro (fun h => ?_) (fun h => ?_)⟩
    · have hm : (35 : UInt8) ∈ bl s := by rw [← indexByte_mem]; exact of_decide_eq_true h
      have hany : (bl s).any (fun x => x.toNat == 35) = true := List.any_eq_true.2 ⟨35, hm, rfl⟩
      rw [hl] at hany ⊢
      unfold exam
      simp only []
      rw [if_pos hs, if_pos hany]
      exact ⟨rfl, Fr.refl _ _⟩
    · have hm : ¬ (35 : UInt8) ∈ bl s := by rw [← indexByte_mem]; have := of_decide_eq_false h; omega
      have hany : ¬ (bl s).any (fun x => x.toNat == 35) = true := fun e => by
        obtain ⟨x, hx, hx'⟩ := List.any_eq_true.1 e
        have : x = 35 := UInt8.toNat_inj.1 (by simpa using hx')
        exact hm (this ▸ hx)
      rw [hl] at hany ⊢
      unfold exam
      simp only []
      rw [if_pos hs, if_neg hany]
      refine sel_intro (fun h => ?_) (fun h => ?_)
      · have := of_decide_eq_true h
        rw [if_pos (by simp; omega)]
        exact ⟨rfl, Fr.refl _ _⟩
      · have := of_decide_eq_false h
        rw [if_neg (by simp; omega)]
        exact ⟨rfl, Fr.refl _ _⟩
  · have hs' : ¬ smallB c = true := by simpa using hs
    refine ⟨by omega, c, g0, sel_intro (fun h35 => ?_) (fun h35 => ?_)⟩
    · have n35 : c.toNat ≠ 35 := fun e => by rw [e] at h35; simp at h35
      refine (l_allDigits s 10 w ha).mono ?_
      rintro r w1 ⟨rfl, f1⟩
      have e : exam (bl s) = if !((bl s).all (digB 10)) || (c.toNat == 48 && decide (1 < (bl s).length)) then (0, 2) else if 13 < (bl s).length then (0, 4) else (4, 0) := by
        rw [hl]
        conv => lhs; unfold exam
        simp only []
        rw [if_neg hs', if_pos n35]
      rw [e]
      have hlen : (bl s).length = s.size := bl_len s
      refine ⟨_, rfl, sel_intro (fun h => ?_) (fun h => ?_)⟩
      · rw [h, Bool.true_or, if_pos rfl]; exact ⟨rfl, f1⟩
      · have h' : (!((bl s).all (digB 10))) = false := h
        rw [h', Bool.false_or]
        have tail : ¬ ((c.toNat == 48 && decide (1 < (bl s).length)) = true) → lexer_examine.S10 s w1 fun r w' => r = .returned (.tuple #[.int .i64 (if (c.toNat == 48 && decide (1 < (bl s).length)) = true then ((0 : Int), (2 : Int)) else if 13 < (bl s).length then (0, 4) else (4, 0)).1, .int .i64 (if (c.toNat == 48 && decide (1 < (bl s).length)) = true then ((0 : Int), (2 : Int)) else if 13 < (bl s).length then (0, 4) else (4, 0)).2]) ∧ Fr0 w w' := fun hz => by
          rw [if_neg hz]
          refine sel_intro (fun h => ?_) (fun h => ?_)
          · have := of_decide_eq_true h
            rw [if_pos (by omega)]; exact ⟨rfl, f1⟩
          · have := of_decide_eq_false h
            rw [if_neg (by omega)]; exact ⟨rfl, f1⟩
        refine ⟨by omega, c, g0, sel_intro (fun h48 => sel_intro (fun h1 => ?_) (fun h1 => tail ?_)) (fun h48 => tail ?_)⟩
        · have a1 : (c.toNat == 48) = true := by have : (c.toNat : Int) = 48 := by simpa using h48
                                                 simp; omega
          have := of_decide_eq_true h1
          rw [a1, decide_eq_true (show 1 < (bl s).length by omega)]
          exact ⟨rfl, f1⟩
        · have := of_decide_eq_false h1
          simp; omega
        · have : ¬ (c.toNat : Int) = 48 := by simpa using h48
          simp; omega
    · have e35 : ¬ c.toNat ≠ 35 := by
        have : (c.toNat : Int) = 35 := by simpa using h35
        omega
      rw [hl] at ha ⊢
      have e : exam (c :: l) = examH l := by
        conv => lhs; unfold exam
        simp only []
        rw [if_neg hs', if_neg e35]
      rw [e]
      refine sel_intro (fun h3 => ?_) (fun h3 => ?_)
      · have := of_decide_eq_true h3
        match l, hsz with
        | [], _ => exact ⟨rfl, Fr.refl _ _⟩
        | [b], _ => exact ⟨rfl, Fr.refl _ _⟩
        | b :: d :: r, hsz => simp at hsz; omega
      · have := of_decide_eq_false h3
        obtain ⟨b, d, r, rfl⟩ : ∃ b d r, l = b :: d :: r := by
          match l, hsz with
          | [], h => simp at h; omega
          | [b], h => simp at h; omega
          | b :: d :: r, _ => exact ⟨b, d, r, rfl⟩
        unfold examH
        simp only []
        have g1 : s[1]? = some b := by rw [bl_get hl]; rfl
        have hex : bl (s.extract 2 s.size) = d :: r := by
          rw [bl_extract, List.take_of_length_le (by rw [bl_len]; omega), hl]; rfl
        have hsz' : s.size = r.length + 3 := by rw [hsz]; rfl
        have fin : ∀ (base most : Nat), most ≤ 100 → lexer_examine.S18 s (base : Int) (most : Int) w fun r_ w' => r_ = .returned (.tuple #[.int .i64 (if (d :: r).all (digB base) then (if most < (d :: r).length then ((0 : Int), (4 : Int)) else (3, 0)) else (0, 2)).1, .int .i64 (if (d :: r).all (digB base) then (if most < (d :: r).length then ((0 : Int), (4 : Int)) else (3, 0)) else (0, 2)).2]) ∧ Fr0 w w' := fun base most hmost => by
          refine ⟨by omega, by omega, (l_allDigits (s.extract 2 s.size) base w ?_).mono ?_⟩
          · rw [hex]; exact fun x hx => ha x (by simp at hx ⊢; rcases hx with h | h <;> simp [h])
          · rintro r_ w1 ⟨rfl, f1⟩
            rw [hex]
            refine ⟨_, rfl, sel_intro (fun h => ?_) (fun h => ?_)⟩
            · have : (d :: r).all (digB base) = false := by cases hA : (d :: r).all (digB base) with
                | false => rfl
                | true => rw [hA] at h; cases h
              rw [this]; exact ⟨rfl, f1⟩
            · have : (d :: r).all (digB base) = true := by cases hA : (d :: r).all (digB base) with
                | true => rfl
                | false => rw [hA] at h; cases h
              rw [this, if_pos rfl]
              unfold lexer_examine.S20
              rw [IntWalk.i64_in _ (by omega)]
              refine sel_intro (fun h => ?_) (fun h => ?_)
              · have := of_decide_eq_true h
                rw [if_pos (by simp; omega)]; exact ⟨rfl, f1⟩
              · have := of_decide_eq_false h
                rw [if_neg (by simp; omega)]; exact ⟨rfl, f1⟩
        refine ⟨by omega, b, g1, sel_intro (fun h98 => ⟨by omega, b, g1, sel_intro (fun h120 => ?_) (fun h120 => ⟨by omega, b, g1, ?_⟩)⟩) (fun h98 => ⟨by omega, b, g1, ?_⟩)⟩
        · have x1 : ¬ b.toNat = 98 := fun e => by rw [e] at h98; simp at h98
          have x2 : ¬ b.toNat = 120 := fun e => by rw [e] at h120; simp at h120
          rw [if_neg x1, if_neg x2]
          exact ⟨rfl, Fr.refl _ _⟩
        · have x1 : ¬ b.toNat = 98 := fun e => by rw [e] at h98; simp at h98
          have x2 : b.toNat = 120 := by
            have : ((b.toNat : Nat) : Int) = 120 := by simpa using h120
            omega
          rw [if_neg x1, if_pos x2]
          exact sel_true (by rw [x2]; rfl) (fin 16 16 (by omega))
        · have x1 : b.toNat = 98 := by
            have : ((b.toNat : Nat) : Int) = 98 := by simpa using h98
            omega
          rw [if_pos x1]
          exact sel_false (by rw [x1]; rfl) (fin 2 64 (by omega))
end Go.Proofs.Ytemagdpieebjlaa
