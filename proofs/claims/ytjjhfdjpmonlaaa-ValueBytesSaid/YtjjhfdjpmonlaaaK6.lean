/- Values made from numbers: the contracts. -/
import Derived.Test.YtjjhfdjpmonlaaaK5
namespace Go.Proofs.Ytjjhfdjpmonlaaa
open Go Go.W

/-! #### Put keeps arrays valid -/
theorem follows_lt {i : Nat} {e : Ent} (h : i < e.i) : follows (some i) e = true := decide_eq_true h
theorem okM_cons (s : Srt) (p : Option Nat) (e : Ent) (l : List Ent) : okM s p (e :: l) = (follows p e && okE s e && okM s (some e.i) l) := rfl
theorem okM_weak (s : Srt) {p q : Option Nat} (h : ∀ e, follows p e = true → follows q e = true) : ∀ l, okM s p l = true → okM s q l = true
  | [], _ => rfl
  | e :: l, hl => by
    rw [okM_cons] at hl ⊢
    simp only [Bool.and_eq_true] at hl ⊢
    exact ⟨⟨h e hl.1.1, hl.1.2⟩, hl.2⟩
theorem okM_put (s : Srt) (e : Ent) (he : nzE e = true → okE s e = true) : ∀ (l : List Ent) (p : Option Nat), follows p e = true → okM s p l = true → okM s p (putM e l) = true
  | [], p, hp, _ => by
    unfold putM
    split
    · rename_i hz
      rw [okM_cons, hp, he hz]; rfl
    · rfl
  | a :: l, p, hp, hl => by
    rw [okM_cons] at hl
    simp only [Bool.and_eq_true] at hl
    obtain ⟨⟨h1, h2⟩, h3⟩ := hl
    unfold putM
    split
    · rename_i hlt
      rw [okM_cons, h1, h2]
      exact okM_put s e he l (some a.i) (follows_lt hlt) h3
    · rename_i hnl
      have rest : ∀ q : Option Nat, (∀ x, a.i = e.i → follows (some a.i) x = true → follows q x = true) → (a.i ≠ e.i → follows q a = true) → okM s q (if a.i = e.i then l else a :: l) = true := by
        intro q hq1 hq2
        split
        · rename_i heq
          exact okM_weak s (fun x => hq1 x heq) l h3
        · rename_i hne
          rw [okM_cons, hq2 hne, h2, h3]; rfl
      split
      · rename_i hz
        show okM s p (e :: _) = true
        rw [okM_cons, hp, he hz]
        exact rest (some e.i) (fun x heq => by rw [heq]; exact id) (fun hne => follows_lt (by omega))
      · show okM s p (if a.i = e.i then l else a :: l) = true
        refine rest p (fun x heq hx => ?_) (fun _ => h1)
        cases p with
        | none => rfl
        | some j =>
          have h1' : j < a.i := of_decide_eq_true h1
          have hx' : a.i < x.i := of_decide_eq_true hx
          exact decide_eq_true (by omega)
/-- what a value of a valid sort looks like that was made from numbers -/
structure Made (s : Srt) (v : Val) : Prop where
  t : v.t = s
  ok : validB v = true
  u : v.u < 18446744073709551616
  s3 : v.s.length ≤ 3
  m5 : v.m.length ≤ 5
  e3 : ∀ e ∈ v.m, e.s.length ≤ 3
  ei : ∀ e ∈ v.m, e.i < 18446744073709551616 ∧ e.u < 18446744073709551616
theorem r_Of (s : Srt) (hs : validS s = true) (l : Sl) (xs : List Int) (w : World) (h : Nums w l xs) (hx : ∀ x ∈ xs, I64 x) : Calls Try.prog n_enthymemeref06_Of #[srtV s, l.v] w fun r w' => (∃ v, Made s v ∧ RetV ty_enthymemeref06_Entry w v r w') ∧ Fr0 w w' := by
  have vs := vs_of hs
  have hn := Nums.len h
  have cons : ∀ {w1 : World} {L : List En}, LH F0 w w1 L [] → Nums w1 l xs := fun H => h.fr0 H.fr
  have nilv : ∀ (u : Nat) (t : List UInt8) {w1 : World}, OwnRow w1 ty_enthymemeref06_Entry 3 ⟨none, 0, 0⟩ (entsC (Val.mk s u t []).m) := fun u t w1 => OwnRow.nil _ _ _
  have loop : ∀ (d i : Nat) (m : List Ent) (sl : Sl) (b2 b4 b5 : Nat) (w1 : World), i + d = 5 → s.k ≠ 0 → s.k ≠ 1 → Made s ⟨s, 0, [], m⟩ → m.length ≤ i → LH F0 w w1 [.g b2, .g b4, .g b5, .row ty_enthymemeref06_Entry 3 sl (entsC m)] [] →
      enthymemeref06_Of.L1T l b2 s.k s.n s.x b4 0 0 0 0 (ByteArray.mk #[]) ⟨none, 0, 0⟩ b5 s.k s.n s.x 0 (ByteArray.mk #[]) sl (i : Int) w1 fun r w' => (∃ v, Made s v ∧ RetV ty_enthymemeref06_Entry w v r w') ∧ Fr0 w w' := by
    intro d
    have fin : ∀ (m : List Ent) (sl : Sl) (b2 b4 b5 : Nat) (w1 : World), Made s ⟨s, 0, [], m⟩ → LH F0 w w1 [.g b2, .g b4, .g b5, .row ty_enthymemeref06_Entry 3 sl (entsC m)] [] → enthymemeref06_Of.S0T b4 0 0 0 0 (ByteArray.mk #[]) ⟨none, 0, 0⟩ b5 s.k s.n s.x 0 (ByteArray.mk #[]) sl w1 fun r w' => (∃ v, Made s v ∧ RetV ty_enthymemeref06_Entry w v r w') ∧ Fr0 w w' :=
      fun m sl b2 b4 b5 w1 hm H => H.locg fun w2 H2 => ⟨⟨_, hm, sl, rfl, H2.get 3, fun b hb => (H2.new _ (List.mem_of_getElem? (i := 3) rfl) b hb).resolve_right id⟩, H2.fr⟩
    induction d with
    | zero =>
      intro i m sl b2 b4 b5 w1 hi hk0 hk1 hm hml H
      refine enthymemeref06_Of.L1T_step _ _ _ _ _ _ _ _ _ _ _ _ _ _ _ _ _ _ _ _ _ _ (sel_dec (fun _ => sel_false (decide_eq_false (by omega)) (fin m sl b2 b4 b5 w1 hm H)) (fun _ => fin m sl b2 b4 b5 w1 hm H))
    | succ d ih =>
      intro i m sl b2 b4 b5 w1 hi hk0 hk1 hm hml H
      refine enthymemeref06_Of.L1T_step _ _ _ _ _ _ _ _ _ _ _ _ _ _ _ _ _ _ _ _ _ _ (sel_dec (fun hlt => sel_true (decide_eq_true (by omega)) (H.callg (r_Pick l xs i w1 (cons (H.forget [] (by simp))) hx) ?_)) (fun _ => fin m sl b2 b4 b5 w1 hm H))
      rintro _ w2 ⟨k, rfl, hk⟩ H2
      have e7 : IntKind.wrap .i64 (Int.tdiv (k : Int) 7) = ((k / 7 : Nat) : Int) := by rw [show Int.tdiv (k : Int) 7 = ((k / 7 : Nat) : Int) from rfl]; exact IntWalk.i64_in _ (by omega)
      refine ⟨_, rfl, ?_⟩
      rw [e7]
      refine H2.callg (r_Bits _ (by constructor <;> omega) s.x vs.x0 vs.x1 w2) ?_
      rintro _ w3 ⟨ix, rfl, hix, hib⟩ H3
      -- the next round
      have next : ∀ (e : Ent) {w4 : World} {sl' : Sl}, e.i = ix → (nzE e = true → okE s e = true) → e.s.length ≤ 3 → e.u < 18446744073709551616 → LH F0 w w4 [.g b2, .g b4, .g b5, .row ty_enthymemeref06_Entry 3 sl (entsC m), .row ty_enthymemeref06_Entry 3 sl' (entsC (putM e m))] [] →
          loc [b2, b4, b5] w4 fun w5 => enthymemeref06_Of.S2T l b2 s.k s.n s.x b4 0 0 0 0 (ByteArray.mk #[]) ⟨none, 0, 0⟩ b5 s.k s.n s.x 0 (ByteArray.mk #[]) sl' (i : Int) w5 fun r w' => (∃ v, Made s v ∧ RetV ty_enthymemeref06_Entry w v r w') ∧ Fr0 w w' := by
        intro e w4 sl' hei hoe hes heu H4
        refine H4.locg fun w5 H5 => ?_
        show enthymemeref06_Of.L1T _ _ _ _ _ _ _ _ _ _ _ _ _ _ _ _ _ _ _ (IntKind.wrap .i64 ((i : Int) + 1)) _ _
        rw [i64_next _ (by omega)]
        have hl := putM_len e m
        have H6 : LH F0 w w5 [.g b2, .g b4, .g b5, .row ty_enthymemeref06_Entry 3 sl' (entsC (putM e m))] [] := by
          have := H5.freeze 3 En.nil rfl trivial (by simp [En.nil])
          exact this.forget [] (by simp)
        refine ih (i + 1) (putM e m) sl' b2 b4 b5 w5 (by omega) hk0 hk1 ⟨rfl, ?_, by simp, by simp, by simp only; omega, fun x hx' => ?_, fun x hx' => ?_⟩ (by omega) H6
        · have hv := hm.ok
          unfold validB at hv ⊢
          rw [if_neg hk0, if_neg hk1] at hv ⊢
          simp only [Bool.and_eq_true] at hv ⊢
          exact ⟨hv.1, okM_put s e hoe m none rfl hv.2⟩
        · rcases putM_mem e m x hx' with rfl | hh
          · exact hes
          · exact hm.e3 x hh
        · rcases putM_mem e m x hx' with rfl | hh
          · exact ⟨by omega, heu⟩
          · exact hm.ei x hh
      have k23 := vs.k
      refine ⟨_, rfl, sel_eq (fun hk2 => H3.locg fun w4 H4 => H4.callg (r_Bits k (by constructor <;> omega) s.n vs.n0 vs.n1 w4) ?_) (fun hk2 => H3.locg fun w4 H4 => H4.callg (r_Short k (by constructor <;> omega) s.n vs.n0 w4) ?_)⟩
      · rintro _ w5 ⟨u, rfl, hu, hub⟩ H5
        refine ⟨_, rfl, H5.callr (r_Put ⟨s, 0, [], m⟩ sl ⟨ix, u, []⟩ w5 (OwnRow.rdn (H5.get 3)) (by simp only; omega)) ?_⟩
        rintro _ w6 ⟨sl', rfl, ho, hf⟩ H6 F6
        refine ⟨_, _, _, _, _, _, rfl, next ⟨ix, u, []⟩ rfl (fun hz => ?_) (by simp) hu (F6.own (.row ty_enthymemeref06_Entry 3 sl' _) ho hf)⟩
        unfold nzE at hz
        have hu0 : (u == 0) = false := by simpa using hz
        unfold okE
        simp only
        rw [hib, hub, hu0, hk2]
        rfl
      · rintro _ w5 ⟨t, rfl, ht3, htn⟩ H5
        refine ⟨_, rfl, H5.callr (r_Put ⟨s, 0, [], m⟩ sl ⟨ix, 0, t⟩ w5 (OwnRow.rdn (H5.get 3)) (by simp only; omega)) ?_⟩
        rintro _ w6 ⟨sl', rfl, ho, hf⟩ H6 F6
        refine ⟨_, _, _, _, _, _, rfl, next ⟨ix, 0, t⟩ rfl (fun hz => ?_) ht3 (by simp) (F6.own (.row ty_enthymemeref06_Entry 3 sl' _) ho hf)⟩
        unfold nzE at hz
        have ht0 : t.isEmpty = false := by simpa using hz
        have e3 : s.k = 3 := by omega
        unfold okE
        simp only
        rw [hib, ht0, e3, decide_eq_true htn]
        rfl
  refine enthymemeref06_Of.okT _ _ _ _ w _ ((lh0 [] (by simp)).newg fun b2 w1 H1 => H1.newg fun b4 w2 H2 => H2.newg fun b5 w3 H3 => sel_eq (fun hk => H3.locg fun w4 H4 => H4.callg (r_Pick l xs 0 w4 (cons H4) hx) ?_) (fun hk => sel_eq (fun hk1 => H3.locg fun w4 H4 => H4.callg (r_Pick l xs 0 w4 (cons H4) hx) ?_) (fun hk1 => H3.locg fun w4 H4 => ?_)))
  · rintro _ w5 ⟨k, rfl, hk'⟩ H5
    refine ⟨_, rfl, H5.callg (r_Bits k (by constructor <;> omega) s.n vs.n0 vs.n1 w5) ?_⟩
    rintro _ w6 ⟨u, rfl, hu, hub⟩ H6
    refine ⟨_, rfl, H6.locg fun w7 H7 => H7.locg fun w8 H8 => ⟨⟨⟨s, u, [], []⟩, ⟨rfl, ?_, hu, by simp, by simp, by simp, by simp⟩, ⟨none, 0, 0⟩, rfl, nilv u [], by simp [blkL]⟩, H8.fr⟩⟩
    unfold validB
    simp only
    rw [if_pos hk, hub]; rfl
  · rintro _ w5 ⟨k, rfl, hk'⟩ H5
    refine ⟨_, rfl, H5.callg (r_Short k (by constructor <;> omega) s.n vs.n0 w5) ?_⟩
    rintro _ w6 ⟨t, rfl, ht3, htn⟩ H6
    refine ⟨_, rfl, H6.locg fun w7 H7 => H7.locg fun w8 H8 => ⟨⟨⟨s, 0, t, []⟩, ⟨rfl, ?_, by simp, ht3, by simp, by simp, by simp⟩, ⟨none, 0, 0⟩, rfl, nilv 0 t, by simp [blkL]⟩, H8.fr⟩⟩
    unfold validB
    simp only
    rw [if_neg hk, if_pos hk1, decide_eq_true htn]; rfl
  · refine loop 5 0 [] ⟨none, 0, 0⟩ b2 b4 b5 w4 rfl hk hk1 ⟨rfl, ?_, by simp, by simp, by simp, by simp, by simp⟩ (by simp) (H4.nilrow _ _)
    unfold validB
    simp only
    rw [if_neg hk, if_neg hk1]; rfl
end Go.Proofs.Ytjjhfdjpmonlaaa
