/- Package regex: what Match answers for sets, plain; enthymemeref04.Word: the contract. -/
import Derived.Test.YtknlbofiicflgaaGreatM3
import Derived.Test.YtknlbofiicflgaaGreatG3
namespace Go.Proofs.YtknlbofiicflgaaGreat
open Go Go.W

/-! #### A byte in front -/
def Sh (t t' : Nat → Nat → Bool) : Prop := ∀ i j, t (i + 1) (j + 1) = t' i j
theorem anyM_sh (p : Nat → Bool) : ∀ (d i : Nat), anyM p (i + 1) d = anyM (fun m => p (m + 1)) i d
  | 0, _ => rfl
  | d + 1, i => by
    show (p (i + 1) || anyM p (i + 1 + 1) d) = (p (i + 1) || anyM (fun m => p (m + 1)) (i + 1) d)
    rw [anyM_sh p d (i + 1)]
theorem eps_sh : Sh epsQ epsQ := fun i j => by
  rw [Bool.eq_iff_iff]
  simp [epsQ]
theorem rng_sh (lo hi c : UInt8) (u : List UInt8) : Sh (rngQ lo hi (c :: u)) (rngQ lo hi u) := fun i j => by
  unfold rngQ
  rw [List.getElem?_cons_succ]
  congr 1
  rw [Bool.eq_iff_iff]
  simp
theorem meet_sh {a b a' b' : Nat → Nat → Bool} (ha : Sh a a') (hb : Sh b b') : Sh (meetQ a b) (meetQ a' b') := fun i j => by
  unfold meetQ
  rw [anyM_sh, show j + 1 + 1 - (i + 1) = j + 1 - i by omega]
  exact anyM_congr _ _ fun m _ _ => by rw [ha i m, hb m j]
theorem both_sh {a b a' b' : Nat → Nat → Bool} (all : Bool) (ha : Sh a a') (hb : Sh b b') : Sh (bothQ all a b) (bothQ all a' b') := fun i j => by
  unfold bothQ
  rw [ha, hb]
theorem starQ_sh {a a' : Nat → Nat → Bool} (ha : Sh a a') : ∀ (f i j : Nat), starQ a f (i + 1) (j + 1) = starQ a' f i j
  | 0, i, j => eps_sh i j
  | f + 1, i, j => by
    unfold starQ
    rw [anyM_sh, show j + 1 - (i + 1) = j - i by omega]
    congr 1
    · exact eps_sh i j
    · exact anyM_congr _ _ fun m _ _ => by rw [ha i m, starQ_sh ha f m j]
theorem starS_sh {a a' : Nat → Nat → Bool} (ha : Sh a a') : Sh (starS a) (starS a') := fun i j => by
  unfold starS
  rw [show j + 1 - (i + 1) = j - i by omega]
  exact starQ_sh ha _ i j
mutual
theorem span_sh (c : UInt8) (u : List UInt8) : ∀ x : Rx, Sh (spanQ (c :: u) x) (spanQ u x)
  | .mk k lo hi l => by
    have e : ∀ v : List UInt8, spanQ v (.mk k lo hi l) = if k = 0 then (fun _ _ => false) else if k = 1 then epsQ else if k = 2 then rngQ lo hi v else if k = 3 then catQ v epsQ l else if k = 4 ∨ k = 5 then altQ v (k == 5) (fun _ _ => k == 5) l else if k = 6 then (fun i j => !(hdQ v l i j)) else starS (hdQ v l) := fun v => by
      unfold spanQ; rfl
    have h1 := cat_sh c u l eps_sh
    have h2 := alt_sh c u (k == 5) l (t := fun _ _ => k == 5) (t' := fun _ _ => k == 5) (fun _ _ => rfl)
    have h3 := hd_sh c u l
    rw [e, e]
    split
    · exact fun _ _ => rfl
    · split
      · exact eps_sh
      · split
        · exact rng_sh lo hi c u
        · split
          · exact h1
          · split
            · exact h2
            · split
              · exact fun i j => congrArg (fun b => !b) (h3 i j)
              · exact starS_sh h3
theorem cat_sh (c : UInt8) (u : List UInt8) : ∀ (l : List Rx) {t t' : Nat → Nat → Bool}, Sh t t' → Sh (catQ (c :: u) t l) (catQ u t' l)
  | [], t, t', h => h
  | a :: l, t, t', h => cat_sh c u l (t := meetQ t (spanQ (c :: u) a)) (t' := meetQ t' (spanQ u a)) (meet_sh h (span_sh c u a))
theorem alt_sh (c : UInt8) (u : List UInt8) (all : Bool) : ∀ (l : List Rx) {t t' : Nat → Nat → Bool}, Sh t t' → Sh (altQ (c :: u) all t l) (altQ u all t' l)
  | [], t, t', h => h
  | a :: l, t, t', h => alt_sh c u all l (t := bothQ all t (spanQ (c :: u) a)) (t' := bothQ all t' (spanQ u a)) (both_sh all h (span_sh c u a))
theorem hd_sh (c : UInt8) (u : List UInt8) : ∀ l : List Rx, Sh (hdQ (c :: u) l) (hdQ u l)
  | [] => fun _ _ => rfl
  | a :: _ => span_sh c u a
end
theorem meet_eps (a : Nat → Nat → Bool) (m : Nat) : meetQ epsQ a 0 m = a 0 m := by
  show (epsQ 0 0 && a 0 m || anyM (fun k => epsQ 0 k && a k m) 1 m) = _
  have : ∀ (d i : Nat), 1 ≤ i → anyM (fun k => epsQ 0 k && a k m) i d = false := by
    intro d
    induction d with
    | zero => intro i _; rfl
    | succ d ih =>
      intro i hi
      show (epsQ 0 i && a i m || anyM (fun k => epsQ 0 k && a k m) (i + 1) d) = false
      rw [ih (i + 1) (by omega)]
      have : epsQ 0 i = false := beq_eq_false_iff_ne.2 (by omega)
      rw [this]; rfl
  rw [this m 1 (Nat.le_refl _)]
  show (true && a 0 m || false) = a 0 m
  simp
/-! #### The sets -/
section
variable (u : List UInt8) (a b : Rx) (n : Nat)
theorem sets_or : spanQ u (.mk 4 0 0 [a, b]) 0 n = (spanQ u a 0 n || spanQ u b 0 n) := rfl
theorem sets_and : spanQ u (.mk 5 0 0 [a, b]) 0 n = (spanQ u a 0 n && spanQ u b 0 n) := rfl
theorem sets_not : spanQ u (.mk 6 0 0 [a]) 0 n = !(spanQ u a 0 n) := rfl
theorem sets_star : spanQ u (.mk 7 0 0 [a]) 0 n = ((n == 0) || spanQ u (.mk 3 0 0 [a, .mk 7 0 0 [a]]) 0 n) := by
  have e1 : spanQ u (.mk 7 0 0 [a]) 0 n = starS (spanQ u a) 0 n := rfl
  have e2 : spanQ u (.mk 3 0 0 [a, .mk 7 0 0 [a]]) 0 n = meetQ (meetQ epsQ (spanQ u a)) (starS (spanQ u a)) 0 n := rfl
  have e3 : meetQ (meetQ epsQ (spanQ u a)) (starS (spanQ u a)) 0 n = meetQ (spanQ u a) (starS (spanQ u a)) 0 n := anyM_congr _ _ fun m _ _ => by rw [meet_eps]
  have e4 : meetQ (spanQ u a) (starS (spanQ u a)) 0 n = (spanQ u a 0 0 && starS (spanQ u a) 0 n || anyM (fun m => spanQ u a 0 m && starS (spanQ u a) m n) 1 n) := rfl
  have e5 := starS_eq (spanQ u a) (i := 0) (j := n) (Nat.zero_le _)
  have e6 : ((0 : Nat) == n) = (n == 0) := by
    rw [Bool.eq_iff_iff]
    simp
    omega
  rw [e1, e2, e3, e4]
  rw [e6, Nat.sub_zero] at e5
  generalize anyM (fun m => spanQ u a 0 m && starS (spanQ u a) m n) 1 n = X at e5 ⊢
  generalize starS (spanQ u a) 0 n = S at e5 ⊢
  generalize spanQ u a 0 0 = A
  generalize (n == 0) = Z at e5 ⊢
  subst e5
  cases Z <;> cases X <;> cases A <;> rfl
/-- a byte, and what follows it -/
theorem sets_led (c d : UInt8) : spanQ (d :: u) (.mk 3 0 0 [.mk 2 c c [], b]) 0 (n + 1) = (decide (d = c) && spanQ u b 0 n) := by
  have e1 : spanQ (d :: u) (.mk 3 0 0 [.mk 2 c c [], b]) 0 (n + 1) = meetQ (meetQ epsQ (rngQ c c (d :: u))) (spanQ (d :: u) b) 0 (n + 1) := rfl
  have e2 : meetQ (meetQ epsQ (rngQ c c (d :: u))) (spanQ (d :: u) b) 0 (n + 1) = meetQ (rngQ c c (d :: u)) (spanQ (d :: u) b) 0 (n + 1) := anyM_congr _ _ fun m _ _ => by rw [meet_eps]
  have e3 : meetQ (rngQ c c (d :: u)) (spanQ (d :: u) b) 0 (n + 1) = (rngQ c c (d :: u) 0 0 && spanQ (d :: u) b 0 (n + 1) || (rngQ c c (d :: u) 0 1 && spanQ (d :: u) b 1 (n + 1) || anyM (fun m => rngQ c c (d :: u) 0 m && spanQ (d :: u) b m (n + 1)) 2 n)) := rfl
  have no : ∀ (e i : Nat), 2 ≤ i → anyM (fun m => rngQ c c (d :: u) 0 m && spanQ (d :: u) b m (n + 1)) i e = false := by
    intro e
    induction e with
    | zero => intro i _; rfl
    | succ e ih =>
      intro i hi
      show (rngQ c c (d :: u) 0 i && spanQ (d :: u) b i (n + 1) || anyM (fun m => rngQ c c (d :: u) 0 m && spanQ (d :: u) b m (n + 1)) (i + 1) e) = false
      rw [ih (i + 1) (by omega)]
      have : rngQ c c (d :: u) 0 i = false := by
        unfold rngQ
        rw [beq_eq_false_iff_ne.2 (by omega : i ≠ 0 + 1)]; rfl
      rw [this]; rfl
  have e4 : rngQ c c (d :: u) 0 0 = false := rfl
  have e5 : rngQ c c (d :: u) 0 1 = decide (d = c) := by
    show (true && (decide (c.toNat ≤ d.toNat) && decide (d.toNat ≤ c.toNat))) = _
    rw [Bool.true_and, Bool.eq_iff_iff]
    simp only [Bool.and_eq_true, decide_eq_true_eq]
    constructor
    · intro ⟨h1, h2⟩
      exact UInt8.toNat_inj.1 (by omega)
    · rintro rfl
      exact ⟨Nat.le_refl _, Nat.le_refl _⟩
  rw [e1, e2, e3, no n 2 (Nat.le_refl _), e4, e5, span_sh d u b 0 n]
  simp
end
/-! #### Word -/
def wordB : List UInt8 := [97, 98, 97, 98, 99, 0, 39, 255]
def wordL : Nat → Nat → List UInt8
  | 0, _ => []
  | d + 1, k => wordB.getD (k % 8) 0 :: wordL d (k / 8)
def wordX (x : Int) : List UInt8 := wordL ((aroundI x 16777216).toNat % 6) ((aroundI x 16777216).toNat / 6)
theorem wordL_len : ∀ d k, (wordL d k).length = d
  | 0, _ => rfl
  | d + 1, k => by show (wordL d (k / 8)).length + 1 = _; rw [wordL_len d]
theorem wordX_len (x : Int) : (wordX x).length ≤ 5 := by
  unfold wordX
  rw [wordL_len]
  omega
theorem c_WordX (x : Int) (hx : I64 x) (w : World) : Calls Tryz.prog n_enthymemeref04_Word #[.int .i64 x] w fun r w' => r = .returned (.string (ba (wordX x))) ∧ Fr0 w w' := by
  refine enthymemeref04_Word.ok _ w _ ((around_any x 16777216 w (by omega) hx).mono ?_)
  rintro _ w1 ⟨rfl, rfl⟩
  have hr := aroundI_range x 16777216 (by omega)
  obtain ⟨k, hk⟩ := Int.eq_ofNat_of_zero_le hr.1
  have ex : wordX x = wordL (k % 6) (k / 6) := by
    unfold wordX
    rw [hk]; rfl
  rw [hk] at hr ⊢
  rw [ex]
  refine ⟨_, rfl, ?_⟩
  have loop : ∀ (d i many k : Nat) (s : Sl) (bs : List UInt8) (w2 : World), i + d = many → many ≤ 5 → k < 16777216 → bs.length = i → LH F0 w w2 [.row ty_uint8 1 s (bs.map W.byteV)] [] → enthymemeref04_Word.L1 (k : Int) s (many : Int) (i : Int) w2 fun r w' => r = .returned (.string (ba (bs ++ wordL d k))) ∧ Fr0 w w' := by
    intro d
    induction d with
    | zero =>
      intro i many k s bs w2 hi hm hk hb H
      refine enthymemeref04_Word.L1_step _ _ _ _ _ _ (sel_false (decide_eq_false (by omega)) ⟨ba bs, bytes_str (H.get 0 : OwnRow _ _ _ _ _).rd1, ?_, H.fr⟩)
      show _ = Ending.returned (.string (ba (bs ++ [])))
      rw [List.append_nil]
    | succ d ih =>
      intro i many k s bs w2 hi hm hk hb H
      have hl : s.n = bs.length := by have := (H.get 0 : OwnRow _ _ _ _ _).len; simp at this; omega
      have hlt : k % 8 < wordB.length := Nat.mod_lt _ (by decide)
      have hg : wordB[k % 8]? = some (wordB.getD (k % 8) 0) := by rw [List.getD_eq_getElem?_getD, List.getElem?_eq_getElem hlt]; rfl
      have e1 : Int.tmod (k : Int) 8 = ((k % 8 : Nat) : Int) := rfl
      have e2 : Int.tdiv (k : Int) 8 = ((k / 8 : Nat) : Int) := rfl
      have ew : bs ++ wordL (d + 1) k = (bs ++ [wordB.getD (k % 8) 0]) ++ wordL d (k / 8) := by
        rw [List.append_assoc]; rfl
      rw [ew]
      refine enthymemeref04_Word.L1_step _ _ _ _ _ _ (sel_true (decide_eq_true (by omega)) (H.nw fun w3 _ H3 => ?_))
      rw [e1, e2]
      have H3' : LH F0 w w3 [.row ty_uint8 1 s (bs.map W.byteV), .c w2.heap.size (wordB.map W.byteV) ty_uint8] [] := H3
      refine ⟨by omega, by have h8 : wordB.length = 8 := rfl; omega, (show optP (some (nb w2)) _ from ?_)⟩
      refine ⟨_, by rw [Int.toNat_natCast, Nat.mul_one]; exact H3'.ld 1 (k % 8) rfl (by rw [List.getElem?_map, hg]; rfl), H3'.ap1 0 el_bytes (xs := bs.map W.byteV) rfl (fun s' w4 H4 _ _ => ?_) (by omega)⟩
      show enthymemeref04_Word.L1 _ _ _ _ _ _
      rw [i64_next _ (by omega), IntWalk.i64_in _ (by omega)]
      refine ih (i + 1) many (k / 8) s' (bs ++ [wordB.getD (k % 8) 0]) w4 (by omega) hm (by omega) (by simp [hb]) ?_
      rw [List.map_append]
      exact H4.take 1
  have e1 : Int.tdiv (k : Int) 6 = ((k / 6 : Nat) : Int) := rfl
  have e2 : Int.tmod (k : Int) 6 = ((k % 6 : Nat) : Int) := rfl
  try dsimp only
  rw [e1, e2, IntWalk.i64_in _ (by omega)]
  exact loop (k % 6) 0 (k % 6) (k / 6) ⟨none, 0, 0⟩ [] w (by omega) (by omega) (by omega) rfl ((lh0 (w := w) [] (by simp)).nilrow ty_uint8 1)
theorem c_Word (x : Int) (hx : I64 x) (w : World) : Calls Tryz.prog n_enthymemeref04_Word #[.int .i64 x] w fun r w' => (∃ t : ByteArray, r = .returned (.string t) ∧ t.size ≤ 5) ∧ Fr0 w w' :=
  (c_WordX x hx w).mono fun _ _ ⟨h, f⟩ => ⟨⟨_, h, by rw [← bl_len, bl_ba]; exact wordX_len x⟩, f⟩
end Go.Proofs.YtknlbofiicflgaaGreat
