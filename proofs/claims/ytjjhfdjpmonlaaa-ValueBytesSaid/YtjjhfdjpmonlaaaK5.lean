/- What the reference makes from numbers: the contracts. -/
import Derived.Test.YtjjhfdjpmonlaaaK4
namespace Go.Proofs.Ytjjhfdjpmonlaaa
open Go Go.W

theorem around0 (n m : Int) (w : World) (hm : 1 ≤ m) (h : I64 n) : Calls Try.prog n_enthymemeref01_Around #[.int .i64 n, .int .i64 m] w fun r w' => (∃ k : Nat, r = .returned (.int .i64 (k : Int)) ∧ (k : Int) < m) ∧ Fr0 w w' :=
  (around_any n m w hm h).mono fun r w' ⟨h1, h2⟩ => by
    have hr := aroundI_range n m hm
    obtain ⟨k, hk⟩ := Int.eq_ofNat_of_zero_le hr.1
    exact ⟨⟨k, by rw [h1, hk], by omega⟩, h2 ▸ Fr.refl _ _⟩
theorem around0k (n m : Int) (w : World) (hm : 1 ≤ m) (h : I64 n) : Calls Try.prog n_enthymemeref01_Around #[.int .i64 n, .int .i64 m] w fun r w' => (∃ k : Nat, r = .returned (.int .i64 (k : Int)) ∧ (k : Int) < m ∧ (k : Int) = aroundI n m) ∧ Fr0 w w' :=
  (around_any n m w hm h).mono fun r w' ⟨h1, h2⟩ => by
    have hr := aroundI_range n m hm
    obtain ⟨k, hk⟩ := Int.eq_ofNat_of_zero_le hr.1
    subst h2
    exact ⟨⟨k, by rw [h1, hk], by omega, hk.symm⟩, Fr.refl _ _⟩
theorem r_Pick (l : Sl) (xs : List Int) (i : Nat) (w : World) (h : Nums w l xs) (hx : ∀ x ∈ xs, I64 x) : Calls Try.prog n_enthymemeref01_Pick #[l.v, .int .i64 (i : Int), .int .i64 1073741824] w fun r w' => (∃ k : Nat, r = .returned (.int .i64 (k : Int)) ∧ k < 1073741824) ∧ Fr0 w w' := by
  have hn := Nums.len h
  refine enthymemeref01_Pick.ok _ _ _ w _ (sel_false (decide_eq_false (by omega)) (sel_dec (fun hi => ⟨⟨0, rfl, by omega⟩, Fr.refl _ _⟩) (fun hi => ⟨by omega, by omega, ?_⟩)))
  have hg : xs[i]? = some (xs[i]'(by omega)) := List.getElem?_eq_getElem (by omega)
  have hI := hx _ (List.mem_of_getElem? hg)
  generalize xs[i]'(by omega) = x at hg hI
  refine Nums.cell h hg (by simp) fun p _ hp => ⟨_, hp, (around0 x _ w (by omega) hI).mono ?_⟩
  rintro _ w1 ⟨⟨k, rfl, hk⟩, f⟩
  exact ⟨_, rfl, ⟨k, rfl, by omega⟩, f⟩
theorem r_Bits (n : Int) (hn : I64 n) (bits : Int) (h0 : 0 ≤ bits) (h1 : bits ≤ 64) (w : World) : Calls Try.prog n_enthymemeref06_Bits #[.int .i64 n, .int .i64 bits] w fun r w' => (∃ u : Nat, r = .returned (.int .u64 (u : Int)) ∧ u < 18446744073709551616 ∧ bel u bits = true) ∧ Fr0 w w' := by
  refine enthymemeref06_Bits.ok _ _ w _ ((around0 n _ w (by omega) hn).mono ?_)
  rintro _ w1 ⟨⟨k, rfl, hk⟩, f⟩
  have fin : ∀ u : Nat, u < 18446744073709551616 → enthymemeref06_Bits.S0 bits (u : Int) w1 fun r w' => (∃ u : Nat, r = .returned (.int .u64 (u : Int)) ∧ u < 18446744073709551616 ∧ bel u bits = true) ∧ Fr0 w w' := by
    intro u hu
    refine sel_dec (fun hb => ?_) (fun hb => ⟨⟨u, rfl, hu, ?_⟩, f⟩)
    · rw [IntWalk.u64_in bits (by omega), pow_word bits h0 hb]
      have hp : 0 < 2 ^ bits.toNat := Nat.pow_pos (by omega)
      have hm := Nat.mod_lt u hp
      have hle : u % 2 ^ bits.toNat ≤ u := Nat.mod_le _ _
      refine ⟨by omega, by generalize 2 ^ bits.toNat = m at *; omega, ⟨u % 2 ^ bits.toNat, rfl, by omega, ?_⟩, f⟩
      unfold bel
      rw [decide_eq_true hm, Bool.or_true]
    · have : bits = 64 := by omega
      unfold bel; simp [this]
  refine ⟨_, rfl, ?_⟩
  rw [IntWalk.u64_in (k : Int) (by omega)]
  refine sel_eq (fun h5 => ?_) (fun h5 => fin k (by omega))
  have e1 : IntKind.wrap .u64 (Int.tdiv (k : Int) 5) = ((k / 5 : Nat) : Int) := by rw [show Int.tdiv (k : Int) 5 = ((k / 5 : Nat) : Int) from rfl]; exact IntWalk.u64_in _ (by omega)
  have e2 : IntKind.wrap .u64 (18446744073709551615 - Int.tmod (IntKind.wrap .u64 (Int.tdiv (k : Int) 5)) 3) = ((18446744073709551615 - k / 5 % 3 : Nat) : Int) := by
    rw [e1, show Int.tmod ((k / 5 : Nat) : Int) 3 = ((k / 5 % 3 : Nat) : Int) from rfl, IntWalk.u64_in _ (by omega)]; omega
  rw [e2]
  exact fin _ (by omega)
theorem ba_app (a b : ByteArray) : bl (a ++ b) = bl a ++ bl b := by simp [bl]
theorem r_Short (n : Int) (hn : I64 n) (most : Int) (h0 : 0 ≤ most) (w : World) : Calls Try.prog n_enthymemeref06_Short #[.int .i64 n, .int .i64 most] w fun r w' => (∃ s : List UInt8, r = .returned (.string (ba s)) ∧ s.length ≤ 3 ∧ (s.length : Int) ≤ most) ∧ Fr0 w w' := by
  refine enthymemeref06_Short.ok _ _ w _ ((around0 n _ w (by omega) hn).mono ?_)
  rintro _ w1 ⟨⟨k, rfl, hk⟩, f⟩
  refine ⟨_, rfl, ?_⟩
  have loop : ∀ (d i k : Nat) (out : List UInt8) (w2 : World), i + d = 3 → k < 1073741824 → out.length = i → (i : Int) ≤ most → LH F0 w w2 [] [] → enthymemeref06_Short.L0 most (k : Int) (ba out) (i : Int) w2 fun r w' => (∃ s : List UInt8, r = .returned (.string (ba s)) ∧ s.length ≤ 3 ∧ (s.length : Int) ≤ most) ∧ Fr0 w w' := by
    intro d
    induction d with
    | zero =>
      intro i k out w2 hi hk ho him H
      refine enthymemeref06_Short.L0_step _ _ _ _ _ _ (sel_false (decide_eq_false ?_) ⟨⟨out, rfl, by omega, by omega⟩, H.fr⟩)
      have : Int.tmod (k : Int) 4 = ((k % 4 : Nat) : Int) := rfl
      omega
    | succ d ih =>
      intro i k out w2 hi hk ho him H
      refine enthymemeref06_Short.L0_step _ _ _ _ _ _ (sel_dec (fun h1 => sel_dec (fun h2 => ?_) (fun _ => ⟨⟨out, rfl, by omega, by omega⟩, H.fr⟩)) (fun _ => ⟨⟨out, rfl, by omega, by omega⟩, H.fr⟩))
      refine H.nw fun w3 _ H3 => ?_
      have e4 : IntKind.wrap .i64 (Int.tdiv (k : Int) 4) = ((k / 4 : Nat) : Int) := by rw [show Int.tdiv (k : Int) 4 = ((k / 4 : Nat) : Int) from rfl]; exact IntWalk.i64_in _ (by omega)
      have e5 : IntKind.wrap .i64 (Int.tdiv (k : Int) 5) = ((k / 5 : Nat) : Int) := by rw [show Int.tdiv (k : Int) 5 = ((k / 5 : Nat) : Int) from rfl]; exact IntWalk.i64_in _ (by omega)
      have em : Int.tmod ((k / 4 : Nat) : Int) 5 = ((k / 4 % 5 : Nat) : Int) := rfl
      rw [e4, em]
      have hlt := Nat.mod_lt (k / 4) (show 0 < 5 by omega)
      refine ⟨by omega, by omega, ?_⟩
      have key : ∀ t : ByteArray, t.size ≥ 1 → w3.cell? ((at0 w2.heap.size).add (Int.toNat ((k / 4 % 5 : Nat) : Int) * 1)) = some (.string t) → ∃ t27 : ByteArray, w3.cell? ((at0 w2.heap.size).add (Int.toNat ((k / 4 % 5 : Nat) : Int) * 1)) = some (.string t27) ∧ (0 : Int) ≤ 1 ∧ 1 ≤ ((t27.size : Nat) : Int) ∧ ¬ ((((ba out).size + (t27.extract 0 (Int.toNat 1)).size : Nat) : Int) > IntKind.i64.max) ∧ enthymemeref06_Short.S1 most (k : Int) (ba out ++ (t27.extract 0 (Int.toNat 1))) (i : Int) w3 fun r w' => (∃ s : List UInt8, r = .returned (.string (ba s)) ∧ s.length ≤ 3 ∧ (s.length : Int) ≤ most) ∧ Fr0 w w' := by
        intro t ht hc
        have hx : (bl (t.extract 0 1)).length = 1 := by rw [bl_extract, List.drop_zero, List.length_take, bl_len]; omega
        have hxs : (t.extract 0 (Int.toNat 1)).size = 1 := hx
        have ea : ba out ++ t.extract 0 (Int.toNat 1) = ba (out ++ bl (t.extract 0 1)) := by
          have : bl (ba out ++ t.extract 0 (Int.toNat 1)) = out ++ bl (t.extract 0 1) := by rw [ba_app, bl_ba]; rfl
          rw [← this, ba_bl]
        refine ⟨t, hc, by omega, by omega, ?_, ?_⟩
        · rw [hxs, ba_size]
          show ¬ _ > (9223372036854775807 : Int)
          omega
        · rw [ea]
          show enthymemeref06_Short.L0 _ (IntKind.wrap .i64 (Int.tdiv (k : Int) 5)) _ (IntKind.wrap .i64 ((i : Int) + 1)) _ _
          rw [e5, i64_next _ (by omega)]
          exact ih (i + 1) (k / 5) _ w3 (by omega) (by omega) (by rw [List.length_append, hx, ho]) (by omega) (H3.take 0)
      match hj : k / 4 % 5, hlt with
      | 0, _ => rw [hj] at key; exact key (ByteArray.mk #[97]) (by decide) (H3.ld 0 0)
      | 1, _ => rw [hj] at key; exact key (ByteArray.mk #[98]) (by decide) (H3.ld 0 1)
      | 2, _ => rw [hj] at key; exact key (ByteArray.mk #[97, 98]) (by decide) (H3.ld 0 2)
      | 3, _ => rw [hj] at key; exact key (ByteArray.mk #[0]) (by decide) (H3.ld 0 3)
      | 4, _ => rw [hj] at key; exact key (ByteArray.mk #[255]) (by decide) (H3.ld 0 4)
  exact loop 3 0 k [] w1 rfl (by omega) rfl (by omega) ⟨f, by simp, by simp, by simp, by simp, by simp⟩
theorem r_SortK (n : Int) (hn : I64 n) (w : World) : Calls Try.prog n_enthymemeref06_Sort #[.int .i64 n] w fun r w' => (∃ s : Srt, r = .returned (srtV s) ∧ validS s = true ∧ s.k = Int.tmod (aroundI n 1048576) 4) ∧ Fr0 w w' := by
  refine enthymemeref06_Sort.okT _ w _ ((lh0 [] (by simp)).newg fun b2 w1 H1 => H1.callg (around0k n _ w1 (by omega) hn) ?_)
  rintro _ w2 ⟨k, rfl, hk, hka⟩ H2
  have hkk : ((k % 4 : Nat) : Int) = Int.tmod (aroundI n 1048576) 4 := by rw [← hka]; rfl
  refine ⟨_, rfl, H2.nw fun w3 _ H3 => ?_⟩
  have e4 : IntKind.wrap .i64 (Int.tdiv (k : Int) 4) = ((k / 4 : Nat) : Int) := by rw [show Int.tdiv (k : Int) 4 = ((k / 4 : Nat) : Int) from rfl]; exact IntWalk.i64_in _ (by omega)
  have em : Int.tmod ((k / 4 : Nat) : Int) 6 = ((k / 4 % 6 : Nat) : Int) := rfl
  have e24 : IntKind.wrap .i64 (Int.tdiv (k : Int) 24) = ((k / 24 : Nat) : Int) := by rw [show Int.tdiv (k : Int) 24 = ((k / 24 : Nat) : Int) from rfl]; exact IntWalk.i64_in _ (by omega)
  have em5 : Int.tmod ((k / 24 : Nat) : Int) 5 = ((k / 24 % 5 : Nat) : Int) := rfl
  have ek : Int.tmod (k : Int) 4 = ((k % 4 : Nat) : Int) := rfl
  rw [e4, em, e24, em5, ek]
  have hlt := Nat.mod_lt (k / 4) (show 0 < 6 by omega)
  have hlt5 := Nat.mod_lt (k / 24) (show 0 < 5 by omega)
  have hk4 := Nat.mod_lt k (show 0 < 4 by omega)
  refine ⟨by omega, by omega, ?_⟩
  -- the rest, for a width
  have fin : ∀ (N x : Int) {w5 : World} {b4 : Nat} {L : List En}, 1 ≤ N → N ≤ 64 → (((k % 4 : Nat) : Int) < 2 → x = 0) → (2 ≤ ((k % 4 : Nat) : Int) → 1 ≤ x ∧ x ≤ 16) → LH F0 w w5 L [] → (∀ b ∈ [b2, b4], En.g b ∈ L) → enthymemeref06_Sort.S0T b2 0 0 0 (k : Int) b4 ((k % 4 : Nat) : Int) N x w5 fun r w' => (∃ s : Srt, r = .returned (srtV s) ∧ validS s = true ∧ s.k = Int.tmod (aroundI n 1048576) 4) ∧ Fr0 w w' := by
    intro N x w5 b4 L h1 h2 h3 h4 H5 hbs
    have ok : ∀ N' : Int, (((k % 4 : Nat) : Int) = 1 ∨ ((k % 4 : Nat) : Int) = 3 → 0 ≤ N') → (¬ (((k % 4 : Nat) : Int) = 1 ∨ ((k % 4 : Nat) : Int) = 3) → 1 ≤ N') → N' ≤ 64 → validS ⟨((k % 4 : Nat) : Int), N', x⟩ = true := by
      intro N' g1 g2 g3
      unfold validS
      simp only [Bool.or_eq_true, Bool.and_eq_true, decide_eq_true_eq, beq_iff_eq]
      omega
    have s2 : ∀ {w6 : World}, LH F0 w w6 L [] → enthymemeref06_Sort.S2T b2 0 0 0 b4 ((k % 4 : Nat) : Int) N x w6 fun r w' => (∃ s : Srt, r = .returned (srtV s) ∧ validS s = true ∧ s.k = Int.tmod (aroundI n 1048576) 4) ∧ Fr0 w w' := fun H6 => H6.locg (fun w7 H7 => ⟨⟨⟨_, N, x⟩, rfl, ok N (by omega) (by omega) h2, hkk⟩, H7.fr⟩) hbs
    have s1 : ((k % 4 : Nat) : Int) = 1 ∨ ((k % 4 : Nat) : Int) = 3 → enthymemeref06_Sort.S1T b2 0 0 0 b4 ((k % 4 : Nat) : Int) N x w5 fun r w' => (∃ s : Srt, r = .returned (srtV s) ∧ validS s = true ∧ s.k = Int.tmod (aroundI n 1048576) 4) ∧ Fr0 w w' := fun hh => H5.locg (fun w6 H6 => H6.locg (fun w7 H7 => ⟨⟨⟨_, 0, x⟩, rfl, ok 0 (by omega) (fun h => absurd hh h) (by omega), hkk⟩, H7.fr⟩) hbs) hbs
    exact sel_eq (fun _ => sel_eq (fun hh => s1 (.inl hh)) (fun _ => sel_eq (fun hh => s1 (.inr hh)) (fun _ => s2 H5))) (fun _ => s2 H5)
  have rest : ∀ N : Int, 1 ≤ N → N ≤ 64 → newV [b2] w3 fun b4 w4 => loc [b2, b4] w4 fun w7 => callF [b2, b4] Try.prog n_enthymemeref06_Array #[.agg #[.int .i64 ((k % 4 : Nat) : Int), .int .i64 N, .int .i64 0]] w7 fun r_ w8 => ∃ t17 : Bool, r_ = .returned (.bool t17) ∧
      sel t17 (nwV w8 (.cells #[.int .i64 1, .int .i64 2, .int .i64 2, .int .i64 3, .int .i64 16] ty_int) fun w9 => (0 : Int) ≤ ((k / 24 % 5 : Nat) : Int) ∧ ((k / 24 % 5 : Nat) : Int) < ((5 : Nat) : Int) ∧ optP (some (Addr.mk w8.heap.size 0 none)) fun t22_p => ∃ t23 : Int, w9.cell? (t22_p.add (Int.toNat ((k / 24 % 5 : Nat) : Int) * 1)) = some (.int .i64 t23) ∧ loc [b2, b4] w9 fun w10 => enthymemeref06_Sort.S0T b2 0 0 0 (k : Int) b4 ((k % 4 : Nat) : Int) N t23 w10 fun r w' => (∃ s : Srt, r = .returned (srtV s) ∧ validS s = true ∧ s.k = Int.tmod (aroundI n 1048576) 4) ∧ Fr0 w w') (enthymemeref06_Sort.S0T b2 0 0 0 (k : Int) b4 ((k % 4 : Nat) : Int) N 0 w8 fun r w' => (∃ s : Srt, r = .returned (srtV s) ∧ validS s = true ∧ s.k = Int.tmod (aroundI n 1048576) 4) ∧ Fr0 w w') := by
    intro N hN1 hN2
    refine H3.newg fun b4 w4 H4 => H4.locg fun w7 H7 => H7.callg (r_Array ⟨((k % 4 : Nat) : Int), N, 0⟩ w7) ?_
    rintro _ w8 rfl H8
    refine ⟨_, rfl, sel_intro (fun ha => H8.nw fun w9 _ H9 => ⟨by omega, by omega, ?_⟩) (fun ha => fin N 0 hN1 hN2 (fun _ => rfl) (fun h2 => ?_) H8 (by simp))⟩
    · have hk2 : 2 ≤ ((k % 4 : Nat) : Int) := by
        unfold arrS at ha
        simp at ha
        omega
      have key : ∀ x : Int, 1 ≤ x → x ≤ 16 → w9.cell? ((at0 w8.heap.size).add (Int.toNat ((k / 24 % 5 : Nat) : Int) * 1)) = some (.int .i64 x) → ∃ t23 : Int, w9.cell? ((at0 w8.heap.size).add (Int.toNat ((k / 24 % 5 : Nat) : Int) * 1)) = some (.int .i64 t23) ∧ loc [b2, b4] w9 fun w10 => enthymemeref06_Sort.S0T b2 0 0 0 (k : Int) b4 ((k % 4 : Nat) : Int) N t23 w10 fun r w' => (∃ s : Srt, r = .returned (srtV s) ∧ validS s = true ∧ s.k = Int.tmod (aroundI n 1048576) 4) ∧ Fr0 w w' := fun x hx1 hx2 hc =>
        ⟨x, hc, H9.locg fun w10 H10 => fin N x hN1 hN2 (by omega) (fun _ => ⟨hx1, hx2⟩) H10 (by simp)⟩
      match hj : k / 24 % 5, hlt5 with
      | 0, _ => rw [hj] at key; exact key 1 (by omega) (by omega) (H9.ld 3 0)
      | 1, _ => rw [hj] at key; exact key 2 (by omega) (by omega) (H9.ld 3 1)
      | 2, _ => rw [hj] at key; exact key 2 (by omega) (by omega) (H9.ld 3 2)
      | 3, _ => rw [hj] at key; exact key 3 (by omega) (by omega) (H9.ld 3 3)
      | 4, _ => rw [hj] at key; exact key 16 (by omega) (by omega) (H9.ld 3 4)
    · exfalso
      unfold arrS at ha
      simp at ha
      omega
  match hj : k / 4 % 6, hlt with
  | 0, _ => exact ⟨1, H3.ld 1 0, rest 1 (by omega) (by omega)⟩
  | 1, _ => exact ⟨2, H3.ld 1 1, rest 2 (by omega) (by omega)⟩
  | 2, _ => exact ⟨3, H3.ld 1 2, rest 3 (by omega) (by omega)⟩
  | 3, _ => exact ⟨4, H3.ld 1 3, rest 4 (by omega) (by omega)⟩
  | 4, _ => exact ⟨8, H3.ld 1 4, rest 8 (by omega) (by omega)⟩
  | 5, _ => exact ⟨64, H3.ld 1 5, rest 64 (by omega) (by omega)⟩
theorem r_Sort (n : Int) (hn : I64 n) (w : World) : Calls Try.prog n_enthymemeref06_Sort #[.int .i64 n] w fun r w' => (∃ s : Srt, r = .returned (srtV s) ∧ validS s = true) ∧ Fr0 w w' :=
  (r_SortK n hn w).mono fun r w' ⟨⟨s, h1, h2, _⟩, f⟩ => ⟨⟨s, h1, h2⟩, f⟩
/-! #### Put -/
def nzE (e : Ent) : Bool := !(e.u == 0) || !e.s.isEmpty
def putM (e : Ent) : List Ent → List Ent
  | [] => if nzE e then [e] else []
  | a :: l => if a.i < e.i then a :: putM e l else (if nzE e then [e] else []) ++ (if a.i = e.i then l else a :: l)
theorem putM_drop (e : Ent) (m : List Ent) (k : Nat) (h : k < m.length) : putM e (m.drop k) = if m[k].i < e.i then m[k] :: putM e (m.drop (k + 1)) else (if nzE e then [e] else []) ++ (if m[k].i = e.i then m.drop (k + 1) else m.drop k) := by
  rw [List.drop_eq_getElem_cons h]
  conv => lhs; unfold putM
theorem putM_len (e : Ent) : ∀ m : List Ent, (putM e m).length ≤ m.length + 1
  | [] => by unfold putM; split <;> simp
  | a :: l => by
    have := putM_len e l
    unfold putM
    split
    · simp; omega
    · split <;> split <;> simp <;> omega
theorem putM_mem (e : Ent) : ∀ (m : List Ent), ∀ x ∈ putM e m, x = e ∨ x ∈ m
  | [], x, h => by
    unfold putM at h
    split at h
    · simp at h; exact .inl h
    · simp at h
  | a :: l, x, h => by
    unfold putM at h
    split at h
    · rcases List.mem_cons.1 h with rfl | h
      · exact .inr (by simp)
      · exact (putM_mem e l x h).imp id (fun h => by simp [h])
    · rcases List.mem_append.1 h with h | h
      · split at h
        · simp at h; exact .inl h
        · simp at h
      · split at h
        · exact .inr (by simp [h])
        · exact .inr h
theorem drop_ents (m : List Ent) (k : Nat) : (entsC m).drop (k * 3) = entsC (m.drop k) := by
  induction k generalizing m with
  | zero => simp
  | succ k ih =>
    cases m with
    | nil => simp [entsC]
    | cons a m =>
      rw [show (k + 1) * 3 = 3 + k * 3 by omega, ← List.drop_drop]
      exact ih m
theorem take_ents (m : List Ent) (k : Nat) : (entsC m).take (k * 3) = entsC (m.take k) := by
  induction k generalizing m with
  | zero => simp [entsC]
  | succ k ih =>
    cases m with
    | nil => simp [entsC]
    | cons a m =>
      have : entsC (a :: m) = entC a ++ entsC m := rfl
      rw [this, show (k + 1) * 3 = (entC a).length + k * 3 from by show _ = 3 + k * 3; omega, List.take_length_add_append, ih m]
      rfl
theorem sub_ents {w : World} {sl : Sl} {m : List Ent} (h : RdN 3 w sl (entsC m)) (k : Nat) (hk : k ≤ m.length) : RdN 3 w (subN 3 sl k sl.n) (entsC (m.drop k)) := by
  have hn := ents_n h
  have := h.sub k sl.n (by omega) (Nat.le_refl _)
  rwa [List.take_of_length_le (by rw [entsC_len, hn]; exact Nat.le_refl _), drop_ents] at this
theorem r_Put (a : Val) (sl : Sl) (e : Ent) (w : World) (h : RdN 3 w sl (entsC a.m)) (hm : a.m.length ≤ 1000000) : Calls Try.prog n_enthymemeref06_Put #[vagg a sl, .int .u64 (e.i : Int), .int .u64 (e.u : Int), .string (ba e.s)] w fun r w' => RetV ty_enthymemeref06_Entry w ⟨a.t, 0, [], putM e a.m⟩ r w' ∧ Fr0 w w' := by
  have nn := ents_n h
  -- the last part
  have s4 : ∀ (acc : List Ent) (k : Nat) (out : Sl) (b1 b2 b3 : Nat) (w1 : World), acc ++ a.m.drop k = putM e a.m → k ≤ a.m.length → acc.length ≤ 1000001 → LH F0 w w1 [.g b1, .g b2, .g b3, .row ty_enthymemeref06_Entry 3 out (entsC acc)] [EntsD sl a.m] →
      enthymemeref06_Put.S4T b1 a.t.k a.t.n a.t.x (a.u : Int) (ba a.s) sl b2 0 0 0 0 (ByteArray.mk #[]) ⟨none, 0, 0⟩ b3 a.t.k a.t.n a.t.x 0 (ByteArray.mk #[]) out (k : Int) w1 fun r w' => RetV ty_enthymemeref06_Entry w ⟨a.t, 0, [], putM e a.m⟩ r w' ∧ Fr0 w w' := by
    intro acc k out b1 b2 b3 w1 he hk hacc H
    have hon := ents_own (H.get 3)
    refine ⟨by omega, by omega, H.locg fun w2 H2 => ?_⟩
    simp only [Int.toNat_natCast]
    refine H2.apT 3 el_re (src := subN 3 sl k sl.n) (news := entsC (a.m.drop k)) rfl (sub_ents (H2.getD 0) k hk) (entC_one _) (by show (out.n + (sl.n - k)) * 32 ≤ _; omega) fun s' w3 H3 => H3.locg fun w4 H4 => ⟨⟨s', rfl, ?_, fun b hb => ?_⟩, H4.fr⟩
    · have := H4.get 3
      show OwnRow w4 ty_enthymemeref06_Entry 3 s' (entsC (putM e a.m))
      rw [← he]
      unfold entsC at this ⊢
      rw [List.flatMap_append]
      exact this
    · exact (H4.new _ (List.mem_of_getElem? (i := 3) rfl) b hb).resolve_right id
  have s3 : ∀ (k : Nat) (out : Sl) (b1 b2 b3 : Nat) (w1 : World), a.m.take k ++ putM e (a.m.drop k) = putM e a.m → k ≤ a.m.length → (∀ x, a.m[k]? = some x → ¬ x.i < e.i) → LH F0 w w1 [.g b1, .g b2, .g b3, .row ty_enthymemeref06_Entry 3 out (entsC (a.m.take k ++ (if nzE e then [e] else [])))] [EntsD sl a.m] →
      enthymemeref06_Put.S3T (e.i : Int) b1 a.t.k a.t.n a.t.x (a.u : Int) (ba a.s) sl b2 0 0 0 0 (ByteArray.mk #[]) ⟨none, 0, 0⟩ b3 a.t.k a.t.n a.t.x 0 (ByteArray.mk #[]) out (k : Int) w1 fun r w' => RetV ty_enthymemeref06_Entry w ⟨a.t, 0, [], putM e a.m⟩ r w' ∧ Fr0 w w' := by
    intro k out b1 b2 b3 w1 he hk hnl H
    have hal : (a.m.take k ++ (if nzE e then [e] else [])).length ≤ 1000001 := by
      rw [List.length_append, List.length_take]
      have : (if nzE e then [e] else []).length ≤ 1 := by split <;> simp
      omega
    refine sel_dec (fun hlt => ⟨by omega, by omega, ?_⟩) (fun hlt => ?_)
    · have hg : a.m[k]? = some (a.m[k]'(by omega)) := List.getElem?_eq_getElem (by omega)
      have hn := hnl _ hg
      rw [putM_drop e a.m k (by omega), if_neg hn] at he
      generalize a.m[k]'(by omega) = x at hg hn he
      rw [Int.toNat_natCast]
      refine ent_at (H.getD 0) hg fun p _ c0 _ _ => ⟨_, c0, sel_eq (fun hx => ?_) (fun hx => ?_)⟩
      · rw [i64_next _ (by omega)]
        rw [if_pos (show x.i = e.i by omega), ← List.append_assoc] at he
        exact s4 _ (k + 1) out b1 b2 b3 w1 he (by omega) hal H
      · rw [if_neg (show ¬ x.i = e.i by omega), ← List.append_assoc] at he
        exact s4 _ k out b1 b2 b3 w1 he (by omega) hal H
    · have hkl : k = a.m.length := by omega
      refine s4 _ k out b1 b2 b3 w1 ?_ hk hal H
      rw [← he, List.drop_of_length_le (by omega), List.append_nil]
      rfl
  have s1 : ∀ (k : Nat) (out : Sl) (b1 b2 b3 : Nat) (w1 : World), a.m.take k ++ putM e (a.m.drop k) = putM e a.m → k ≤ a.m.length → (∀ x, a.m[k]? = some x → ¬ x.i < e.i) → LH F0 w w1 [.g b1, .g b2, .g b3, .row ty_enthymemeref06_Entry 3 out (entsC (a.m.take k))] [EntsD sl a.m] →
      enthymemeref06_Put.S1T (e.i : Int) (e.u : Int) (ba e.s) b1 a.t.k a.t.n a.t.x (a.u : Int) (ba a.s) sl b2 0 0 0 0 (ByteArray.mk #[]) ⟨none, 0, 0⟩ b3 a.t.k a.t.n a.t.x 0 (ByteArray.mk #[]) out (k : Int) w1 fun r w' => RetV ty_enthymemeref06_Entry w ⟨a.t, 0, [], putM e a.m⟩ r w' ∧ Fr0 w w' := by
    intro k out b1 b2 b3 w1 he hk hnl H
    have hon := ents_own (H.get 3)
    rw [List.length_take] at hon
    have s2 : nzE e = true → enthymemeref06_Put.S2T (e.i : Int) (e.u : Int) (ba e.s) b1 a.t.k a.t.n a.t.x (a.u : Int) (ba a.s) sl b2 0 0 0 0 (ByteArray.mk #[]) ⟨none, 0, 0⟩ b3 a.t.k a.t.n a.t.x 0 (ByteArray.mk #[]) out (k : Int) w1 fun r w' => RetV ty_enthymemeref06_Entry w ⟨a.t, 0, [], putM e a.m⟩ r w' ∧ Fr0 w w' := by
      intro hz
      refine H.ap1T 3 el_re rfl (fun s' w2 H2 => H2.locg fun w3 H3 => s3 k s' b1 b2 b3 w3 he hk hnl ?_) (by omega)
      rw [hz, if_pos rfl, entsC_snoc]
      exact H3
    have sz : (ba e.s).size = e.s.length := rfl
    refine sel_dec (fun hu => s2 ?_) (fun hu => sel_dec (fun hs => s2 ?_) (fun hs => s3 k out b1 b2 b3 w1 he hk hnl ?_))
    · unfold nzE; have : (e.u == 0) = false := by simp; omega
      rw [this]; rfl
    · rw [sz] at hs
      unfold nzE
      have : e.s.isEmpty = false := by cases hh : e.s with | nil => rw [hh] at hs; simp at hs | cons _ _ => rfl
      rw [this]; simp
    · rw [sz] at hs
      have h1 : nzE e = false := by
        unfold nzE
        have e1 : (e.u == 0) = true := by simp; omega
        have e2 : e.s.isEmpty = true := by cases hh : e.s with | nil => rfl | cons _ _ => rw [hh] at hs; simp at hs
        rw [e1, e2]; rfl
      rw [h1, if_neg (by simp), List.append_nil]
      exact H
  have loop : ∀ (d k : Nat) (out : Sl) (b1 b2 b3 : Nat) (w1 : World), k + d = a.m.length → a.m.take k ++ putM e (a.m.drop k) = putM e a.m → LH F0 w w1 [.g b1, .g b2, .g b3, .row ty_enthymemeref06_Entry 3 out (entsC (a.m.take k))] [EntsD sl a.m] →
      enthymemeref06_Put.L0T (e.i : Int) (e.u : Int) (ba e.s) b1 a.t.k a.t.n a.t.x (a.u : Int) (ba a.s) sl b2 0 0 0 0 (ByteArray.mk #[]) ⟨none, 0, 0⟩ b3 a.t.k a.t.n a.t.x 0 (ByteArray.mk #[]) out (k : Int) w1 fun r w' => RetV ty_enthymemeref06_Entry w ⟨a.t, 0, [], putM e a.m⟩ r w' ∧ Fr0 w w' := by
    intro d
    induction d with
    | zero =>
      intro k out b1 b2 b3 w1 hk he H
      exact enthymemeref06_Put.L0T_step _ _ _ _ _ _ _ _ _ _ _ _ _ _ _ _ _ _ _ _ _ _ _ _ _ _ _ (sel_false (decide_eq_false (by omega)) (s1 k out b1 b2 b3 w1 he (by omega) (fun x hx => by rw [List.getElem?_eq_none (by omega)] at hx; cases hx) H))
    | succ d ih =>
      intro k out b1 b2 b3 w1 hk he H
      have hon := ents_own (H.get 3)
      rw [List.length_take] at hon
      have hg : a.m[k]? = some (a.m[k]'(by omega)) := List.getElem?_eq_getElem (by omega)
      have he' := he
      rw [putM_drop e a.m k (by omega)] at he'
      have htk : a.m.take (k + 1) = a.m.take k ++ [a.m[k]'(by omega)] := by rw [List.take_add_one, hg]; rfl
      generalize a.m[k]'(by omega) = x at hg he' htk
      refine enthymemeref06_Put.L0T_step _ _ _ _ _ _ _ _ _ _ _ _ _ _ _ _ _ _ _ _ _ _ _ _ _ _ _ (sel_true (decide_eq_true (by omega)) ⟨by omega, by omega, ?_⟩)
      rw [Int.toNat_natCast]
      refine ent_at (H.getD 0) hg fun p hp c0 _ _ => ⟨_, c0, sel_dec (fun hx => ⟨by omega, by omega, ?_⟩) (fun hx => s1 k out b1 b2 b3 w1 he (by omega) (fun y hy => by rw [hg] at hy; cases hy; omega) H)⟩
      rw [hp]
      refine H.locg fun w2 H2 => ?_
      obtain ⟨d0, d1, d2⟩ := cells_again (H2.getD 0) hg hp
      refine ⟨_, _, _, d0, d1, d2, H2.ap1T 3 el_re rfl (fun s' w3 H3 => H3.locg fun w4 H4 => ?_) (by omega)⟩
      rw [i64_next _ (by omega)]
      rw [if_pos (by omega)] at he'
      refine ih (k + 1) s' b1 b2 b3 w4 (by omega) (by rw [htk, List.append_assoc]; exact he') ?_
      rw [htk, entsC_snoc]
      exact H4
  refine enthymemeref06_Put.okT _ _ _ _ _ _ _ _ _ w _ ((lh0 [EntsD sl a.m] (by simp only [List.mem_cons, List.not_mem_nil, or_false]; rintro e rfl; exact h)).newg fun b1 w1 H1 => H1.newg fun b2 w2 H2 => H2.newg fun b3 w3 H3 => H3.locg fun w4 H4 => ?_)
  exact loop a.m.length 0 ⟨none, 0, 0⟩ b1 b2 b3 w4 (by omega) rfl (H4.nilrow _ _)
end Go.Proofs.Ytjjhfdjpmonlaaa
