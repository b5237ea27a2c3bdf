/- Package enthymemeref04: Pick and next: numbers from a list. Package enthymemeref04: maker.regex: a valid small expression. Package enthymemeref04: maker.regex, Made: the contracts. Package enthymemeref04: Made: the contract. -/
import Derived.Test.YtknlbofiicflgaaGreatG1
import Derived.Test.YtknlbofiicflgaaGreatR3
import Derived.Test.YtknlbofiicflgaaGreatNO
namespace Go.Proofs.YtknlbofiicflgaaGreat
open Go Go.W

theorem around0 (n m : Int) (w : World) (hm : 1 ≤ m) (h : I64 n) : Calls Tryz.prog n_enthymemeref01_Around #[.int .i64 n, .int .i64 m] w fun r w' => (∃ k : Nat, r = .returned (.int .i64 (k : Int)) ∧ (k : Int) < m) ∧ Fr0 w w' :=
  (around_any n m w hm h).mono fun r w' ⟨h1, h2⟩ => by
    have hr := aroundI_range n m hm
    obtain ⟨k, hk⟩ := Int.eq_ofNat_of_zero_le hr.1
    exact ⟨⟨k, by rw [h1, hk], by omega⟩, h2 ▸ Fr.refl _ _⟩
theorem r_Pick (l : Sl) (xs : List Int) (i m : Int) (hm : 1 ≤ m) (w : World) (h : Nums w l xs) (hx : ∀ x ∈ xs, I64 x) : Calls Tryz.prog n_enthymemeref01_Pick #[l.v, .int .i64 i, .int .i64 m] w fun r w' => (∃ k : Nat, r = .returned (.int .i64 (k : Int)) ∧ (k : Int) < m) ∧ Fr0 w w' := by
  have hn := Nums.len h
  refine enthymemeref01_Pick.ok _ _ _ w _ (sel_dec (fun hi => ⟨⟨0, rfl, by omega⟩, Fr.refl _ _⟩) (fun hi => sel_dec (fun hi2 => ⟨⟨0, rfl, by omega⟩, Fr.refl _ _⟩) (fun hi2 => ⟨by omega, by omega, ?_⟩)))
  obtain ⟨j, rfl⟩ := Int.eq_ofNat_of_zero_le (by omega : 0 ≤ i)
  have hg : xs[j]? = some (xs[j]'(by omega)) := List.getElem?_eq_getElem (by omega)
  have hI := hx _ (List.mem_of_getElem? hg)
  generalize xs[j]'(by omega) = x at hg hI
  refine Nums.cell h hg (by simp) fun p _ hp => ⟨_, hp, (around0 x _ w hm hI).mono ?_⟩
  rintro _ w1 ⟨⟨k, rfl, hk⟩, f⟩
  exact ⟨_, rfl, ⟨k, rfl, hk⟩, f⟩
/-- a maker -/
def Mk (mb : Nat) (l : Sl) (w : World) : Prop := ∃ a : Int, w.heap[mb]? = some (.cells #[l.v, .int .i64 a] ty_enthymemeref04_maker (0, 0))
def enMk (mb : Nat) (l : Sl) : En := ⟨[mb], Mk mb l, fun w w' h ⟨a, ha⟩ => ⟨a, (h mb (by simp) (lt_of_heap ha)).trans ha⟩, fun w ⟨a, ha⟩ b hb => by simp at hb; subst hb; exact lt_of_heap ha, by simp⟩
/-- what a call with a maker is: what it answers, the maker, nothing else changed -/
abbrev MkPost (mb : Nat) (l : Sl) (w : World) (A : Post) : Post := fun r w' => A r w' ∧ Mk mb l w' ∧ Fr (· = mb) w w'
theorem c_next (mb : Nat) (l : Sl) (xs : List Int) (m : Int) (hm : 1 ≤ m) (w : World) (hk : Mk mb l w) (h : Nums w l xs) (hx : ∀ x ∈ xs, I64 x) (hd : ∀ b ∈ (En.rd l (xs.map intV)).fp, b ≠ mb) :
    Calls Tryz.prog n_enthymemeref04_maker_next #[.pointer (some (at0 mb)), .int .i64 m] w (MkPost mb l w fun r _ => ∃ k : Nat, r = .returned (.int .i64 (k : Int)) ∧ (k : Int) < m) := by
  obtain ⟨a, ha⟩ := hk
  have H : LH (· = mb) w w [.c mb [l.v, .int .i64 a] ty_enthymemeref04_maker] [.rd l (xs.map intV)] := LH.start' _ _ (fun e he => by
    simp only [List.mem_cons, List.not_mem_nil, or_false] at he
    subst he
    exact ⟨ha, fun b hb => by simpa [En.ob] using hb⟩) (by simp [En.ob]) (fun e he => by
    simp only [List.mem_cons, List.not_mem_nil, or_false] at he
    subst he
    refine ⟨h, fun b hb e' he' hb' => ?_⟩
    simp only [List.mem_cons, List.not_mem_nil, or_false] at he'
    subst he'
    have e1 : b = mb := by simpa [En.ob] using hb'
    exact hd b hb e1)
  refine enthymemeref04_maker_next.ok _ _ w _ ⟨a, H.ld 0 1, H.st 0 1 rfl fun w1 H1 => H1.dr fun w2 H2 => ⟨l, H2.ld 0 0, _, H2.ld 0 1, H2.call (r_Pick l xs _ m hm w2 (H2.getD 0) hx) ?_⟩⟩
  rintro _ w3 ⟨k, rfl, hk⟩ H3
  exact ⟨_, rfl, ⟨k, rfl, hk⟩, ⟨_, H3.ob 0⟩, H3.fr⟩
section
variable {M : Nat → Prop} {w0 w : World} {L D : List En} {bs : List Nat} {mb : Nat} {l : Sl}
theorem mk_off (w : World) (b : Nat) : ¬ (enMk mb l).P ({ w with heap := Array.replicate (b + 1) (.map #[] 0) }) := by
  rintro ⟨a, h⟩
  have h : ({ w with heap := Array.replicate (b + 1) (.map #[] 0) } : World).heap[mb]? = some (.cells #[l.v, .int .i64 a] ty_enthymemeref04_maker (0, 0)) := h
  simp [Array.getElem?_replicate] at h
/-- a call with a maker, where somebody watches -/
theorem _root_.Go.W.LH.callM (H : LH M w0 w L D) (i : Nat) (hi : L[i]? = some (enMk mb l)) {g : FuncId} {args : Array Value} {A K : Post} (hc : Mk mb l w → Calls Tryz.prog g args w (MkPost mb l w A))
    (hk : ∀ r w', A r w' → LH M w0 w' (L.set i (enMk mb l)) D → (∀ e : En, e.P w' → (∀ b ∈ e.fp, w.heap.size ≤ b) → LH M w0 w' (L.set i (enMk mb l)) (D ++ [e])) → K r w') (hbs : ∀ b ∈ bs, En.g b ∈ L := by simp) : callF bs Tryz.prog g args w K := by
  refine ⟨(· = mb), fun b hb hm => ?_, (hc (H.get i hi)).mono ?_⟩
  · exact ghost_off H hi (mk_off w) (hbs b hb) (by rw [hm]; simp [enMk])
  · rintro r w' ⟨ha, hmk, f⟩
    have H' : LH M w0 w' (L.set i (enMk mb l)) D := H.upd i (enMk mb l) hi (f.mono fun x _ e => by simp [enMk, e]) hmk fun b hb => .inl hb
    refine ⟨f, hk r w' ha H' fun e he hf => ⟨H'.fr, H'.own, fun d hd => ?_, H'.new, H'.nd, fun d hd b hb e' he' hb' => ?_⟩⟩
    · rcases List.mem_append.1 hd with hd | hd
      · exact H'.rd d hd
      · simp at hd; subst hd; exact he
    · rcases List.mem_append.1 hd with hd | hd
      · exact H'.dj d hd b hb e' he' hb'
      · simp at hd; subst hd
        have h1 := hf b hb
        have h2 : b < w.heap.size := by
          rcases mem_set' he' with rfl | ⟨k, _, hke⟩
          · have hb' : b = mb := by simpa [enMk] using hb'
            have := (enMk mb l).lt w (H.get i hi) mb (by simp [enMk])
            omega
          · exact e'.lt w (H.own e' (List.mem_of_getElem? hke)) b hb'
        omega
end
end Go.Proofs.YtknlbofiicflgaaGreat
namespace Go.Proofs.YtknlbofiicflgaaGreat
open Go Go.W

theorem el_rf : ElemOk Tryz.prog ty_sl_enthymemeref04_Regex ty_enthymemeref04_Regex (.agg #[.int .i64 0, .int .u8 0, .int .u8 0, .slice none 0 0]) 4 40 := ⟨by kernel_rfl, by kernel_rfl, rfl, by decide, by decide⟩
def bz : Nat → Nat
  | 0 => 0
  | 1 => 1
  | 4 => 22
  | n + 1 => 1 + 2 * bz n
/-- and leaves -/
def lfz : Nat → Nat
  | 0 => 0
  | 1 => 1
  | 2 => 2
  | 3 => 4
  | _ => 12
def MadeP (n : Nat) (w : World) : Post := fun r w' => ∃ t : Rt, r = .returned t.v ∧ t.P w' ∧ (∀ b ∈ t.fp, w.heap.size ≤ b) ∧ t.sz ≤ bz n ∧ goodR t.rx = true ∧ lvX t.rx ≤ lfz n
/-- good parts with few leaves -/
def GoodN (n : Nat) (ks : List Rt) : Prop := goodL (Rt.rxs ks) = true ∧ ms lvX (Rt.rxs ks) ≤ ks.length * lfz n
theorem goodN_nil (n : Nat) : GoodN n [] := ⟨rfl, Nat.zero_le _⟩
theorem leaf_P (w : World) (k : Int) (lo hi : UInt8) : (Rt.mk k lo hi ⟨none, 0, 0⟩ []).P w := by
  unfold Rt.P Rt.Ps
  exact ⟨RdN.nil 4 w, trivial⟩
theorem leaf_fp {k : Int} {lo hi : UInt8} {b : Nat} (h : b ∈ (Rt.mk k lo hi ⟨none, 0, 0⟩ []).fp) : False := by
  unfold Rt.fp Rt.fps at h
  simp [En.rdn] at h
theorem leaf_sz (k : Int) (lo hi : UInt8) : (Rt.mk k lo hi ⟨none, 0, 0⟩ []).sz = 1 := by
  unfold Rt.sz Rt.szs
  rfl
theorem tabI (k : Nat) (hk : k < 6) : ∃ m : Nat, ([.int .i64 2, .int .i64 2, .int .i64 2, .int .i64 2, .int .i64 1, .int .i64 0] : List Value)[k]? = some (.int .i64 (m : Int)) ∧ m ≤ 2 := by
  match k, hk with
  | 0, _ => exact ⟨2, rfl, by omega⟩
  | 1, _ => exact ⟨2, rfl, by omega⟩
  | 2, _ => exact ⟨2, rfl, by omega⟩
  | 3, _ => exact ⟨2, rfl, by omega⟩
  | 4, _ => exact ⟨1, rfl, by omega⟩
  | 5, _ => exact ⟨0, rfl, by omega⟩
theorem tabB (k : Nat) (hk : k < 10) : ∃ c : UInt8, ([.int .u8 97, .int .u8 98, .int .u8 97, .int .u8 98, .int .u8 99, .int .u8 0, .int .u8 39, .int .u8 92, .int .u8 255, .int .u8 32] : List Value)[k]? = some (.int .u8 (c.toNat : Int)) := by
  match k, hk with
  | 0, _ => exact ⟨97, rfl⟩
  | 1, _ => exact ⟨98, rfl⟩
  | 2, _ => exact ⟨97, rfl⟩
  | 3, _ => exact ⟨98, rfl⟩
  | 4, _ => exact ⟨99, rfl⟩
  | 5, _ => exact ⟨0, rfl⟩
  | 6, _ => exact ⟨39, rfl⟩
  | 7, _ => exact ⟨92, rfl⟩
  | 8, _ => exact ⟨255, rfl⟩
  | 9, _ => exact ⟨32, rfl⟩
section
variable {mb : Nat} {l : Sl} {xs : List Int}
theorem mk_start {w : World} (hk : Mk mb l w) (h : Nums w l xs) (hd : ∀ b ∈ (En.rd l (xs.map intV)).fp, b ≠ mb) : LH (· = mb) w w [enMk mb l] [.rd l (xs.map intV)] := LH.start' _ _ (fun e he => by
    simp only [List.mem_cons, List.not_mem_nil, or_false] at he
    subst he
    exact ⟨hk, fun b hb => by simpa [enMk] using hb⟩) (by simp [enMk]) (fun e he => by
    simp only [List.mem_cons, List.not_mem_nil, or_false] at he
    subst he
    refine ⟨h, fun b hb e' he' hb' => ?_⟩
    simp only [List.mem_cons, List.not_mem_nil, or_false] at he'
    subst he'
    have e1 : b = mb := by simpa [enMk] using hb'
    exact hd b hb e1)
/-- a leaf -/
theorem mr_leaf (hx : ∀ x ∈ xs, I64 x) (hd : ∀ b ∈ (En.rd l (xs.map intV)).fp, b ≠ mb) (n : Nat) (hn : 1 ≤ bz n) (hn2 : 1 ≤ lfz n) (kind : Nat) (hkd : kind ≤ 2) (d : Int) {w w1 : World} {b4 : Nat} (a0 a1 a2 : Int) (a3 : Sl) (H1 : LH (· = mb) w w1 [enMk mb l, .g b4] [.rd l (xs.map intV)]) :
    enthymemeref04_maker_regex.S1T (at0 mb) d b4 a0 a1 a2 a3 (kind : Int) w1 (MkPost mb l w (MadeP n w)) := by
  refine H1.newg (bs := [b4]) (fun b6 w2 H2 => ?_) (by simp)
  have H2 : LH (· = mb) w w2 [enMk mb l, .g b4, .g b6] [.rd l (xs.map intV)] := H2
  have fin : ∀ (lo hi : UInt8) (w' : World), goodR (.mk (kind : Int) lo hi []) = true → LH (· = mb) w w' [enMk mb l, .g b4, .g b6] [.rd l (xs.map intV)] → enthymemeref04_maker_regex.S2T b4 a0 a1 a2 a3 b6 (kind : Int) (lo.toNat : Int) (hi.toNat : Int) ⟨none, 0, 0⟩ w' (MkPost mb l w (MadeP n w)) := fun lo hi w' hg H' =>
    H'.locg (bs := [b4, b6]) (fun w4 H4 => ⟨⟨.mk (kind : Int) lo hi ⟨none, 0, 0⟩ [], rfl, leaf_P _ _ _ _, fun b hb => (leaf_fp hb).elim, by rw [leaf_sz]; exact hn, hg, hn2⟩, H4.get 0, H4.fr⟩) (by simp)
  refine sel_eq (fun h2 => ?_) (fun h2 => ?_)
  · have h2 : kind = 2 := by omega
    subst h2
    refine H2.locg (bs := [b4, b6]) (fun w5 H5 => H5.nw fun w6 _ H6 => H6.callM (bs := [b4, b6]) 0 rfl (fun hm => c_next mb l xs 10 (by omega) w6 hm (H6.getD 0) hx hd) ?_ (by simp)) (by simp)
    rintro _ w7 ⟨k, rfl, hk⟩ H7 _
    obtain ⟨c, hc⟩ := tabB k (by omega)
    refine ⟨_, rfl, by omega, by omega, optS ⟨(c.toNat : Int), by rw [Int.toNat_natCast, Nat.mul_one]; exact H7.ld 3 k rfl hc, ?_⟩⟩
    refine H7.locg (bs := [b4, b6]) (fun w9 H9 => H9.callM (bs := [b4, b6]) 0 rfl (fun hm => c_next mb l xs 4 (by omega) w9 hm (H9.getD 0) hx hd) ?_ (by simp)) (by simp)
    rintro _ w10 ⟨k2, rfl, hk2⟩ H10 _
    have gd : ∀ hi : UInt8, c.toNat ≤ hi.toNat → goodR (.mk 2 c hi []) = true := fun hi h => by
      unfold goodR
      simp [h]
    refine ⟨_, rfl, sel_eq (fun _ => ?_) (fun _ => fin c c w10 (gd c (Nat.le_refl _)) (H10.take 3))⟩
    refine H10.locg (bs := [b4, b6]) (fun w11 H11 => H11.callM (bs := [b4, b6]) 0 rfl (fun hm => c_next mb l xs 256 (by omega) w11 hm (H11.getD 0) hx hd) ?_ (by simp)) (by simp)
    rintro _ w12 ⟨k3, rfl, hk3⟩ H12 _
    refine ⟨_, rfl, H12.locg (bs := [b4, b6]) (fun w13 H13 => ?_) (by simp)⟩
    rw [IntWalk.u8_in (k3 : Int) (by omega)]
    split
    · rename_i hlt
      have ek : (k3 : Int) = ((UInt8.ofNat k3).toNat : Int) := by rw [UInt8.toNat_ofNat']; omega
      rw [ek] at hlt ⊢
      exact fin c (UInt8.ofNat k3) w13 (gd _ (by omega)) (H13.take 3)
    · exact fin c c w13 (gd c (Nat.le_refl _)) (H13.take 3)
  · have gd : goodR (.mk (kind : Int) 0 0 []) = true := by
      have : kind = 0 ∨ kind = 1 := by omega
      rcases this with rfl | rfl <;> rfl
    refine sel_eq (fun h => by omega) (fun _ => sel_eq (fun h => by omega) (fun _ => sel_eq (fun h => by omega) (fun _ => ?_)))
    refine H2.locg (bs := [b4, b6]) (fun w5 H5 => sel_eq (fun h => by omega) (fun _ => sel_eq (fun h => by omega) (fun _ => fin 0 0 w5 gd H5))) (by simp)
end
end Go.Proofs.YtknlbofiicflgaaGreat
namespace Go.Proofs.YtknlbofiicflgaaGreat
open Go Go.W

theorem goodL_app : ∀ (a b : List Rx), goodL (a ++ b) = (goodL a && goodL b)
  | [], b => by unfold goodL; simp
  | x :: a, b => by
    have := goodL_app a b
    show (goodR x && goodL (a ++ b)) = ((goodR x && goodL a) && goodL b)
    rw [this, Bool.and_assoc]
theorem gszs_app : ∀ (a b : List Rt), Rt.szs (a ++ b) = Rt.szs a + Rt.szs b
  | [], b => by simp [Rt.szs]
  | x :: a, b => by
    have := gszs_app a b
    show x.sz + Rt.szs (a ++ b) = (x.sz + Rt.szs a) + Rt.szs b
    omega
theorem good_node {k : Nat} (h3 : 3 ≤ k) (h7 : k ≤ 7) {ks : List Rx} (hg : goodL ks = true) (h1 : 6 ≤ k → ks.length = 1) : goodR (.mk (k : Int) 0 0 ks) = true := by
  have : k = 3 ∨ k = 4 ∨ k = 5 ∨ k = 6 ∨ k = 7 := by omega
  unfold goodR
  rcases this with rfl | rfl | rfl | rfl | rfl
  · simp [hg]
  · simp [hg]
  · simp [hg]
  · simp [hg, h1 (by omega)]
  · simp [hg, h1 (by omega)]
section
variable {mb : Nat} {l : Sl} {xs : List Int}
abbrev MrOk (mb : Nat) (l : Sl) (xs : List Int) (n : Nat) : Prop := ∀ w : World, Mk mb l w → Nums w l xs → Calls Tryz.prog n_enthymemeref04_maker_regex #[.pointer (some (at0 mb)), .int .i64 (n : Int)] w (MkPost mb l w (MadeP n w))
/-- a node with parts -/
theorem mr_node (hx : ∀ x ∈ xs, I64 x) (hd : ∀ b ∈ (En.rd l (xs.map intV)).fp, b ≠ mb) (n : Nat) (hn1 : 1 ≤ n) (hn3 : n ≤ 3) (ih : MrOk mb l xs n) (k : Nat) (h3 : 3 ≤ k) (h7 : k ≤ 7) {w w1 : World} {b4 : Nat} (H1 : LH (· = mb) w w1 [enMk mb l, .g b4] [.rd l (xs.map intV)]) :
    enthymemeref04_maker_regex.S1T (at0 mb) ((n + 1 : Nat) : Int) b4 0 0 0 ⟨none, 0, 0⟩ (k : Int) w1 (MkPost mb l w (MadeP (n + 1) w)) := by
  have ed : IntKind.wrap .i64 (((n + 1 : Nat) : Int) - 1) = (n : Int) := by rw [IntWalk.i64_in _ (by omega)]; omega
  have hbz : ∀ m, (m ≤ 2 ∨ (m ≤ 3 ∧ n = 3)) → 1 + m * bz n ≤ bz (n + 1) := fun m hm => by
    have : n = 1 ∨ n = 2 ∨ n = 3 := by omega
    rcases this with rfl | rfl | rfl
    · show 1 + m * 1 ≤ 3; omega
    · show 1 + m * 3 ≤ 7; omega
    · show 1 + m * 7 ≤ 22; omega
  have hlz : ∀ m, (m ≤ 2 ∨ (m ≤ 3 ∧ n = 3)) → max 1 (m * lfz n) ≤ lfz (n + 1) := fun m hm => by
    have : n = 1 ∨ n = 2 ∨ n = 3 := by omega
    rcases this with rfl | rfl | rfl
    · show max 1 (m * 1) ≤ 2; omega
    · show max 1 (m * 2) ≤ 4; omega
    · show max 1 (m * 4) ≤ 12; omega
  refine H1.newg (bs := [b4]) (fun b6 w2 H2 => ?_) (by simp)
  have H2 : LH (· = mb) w w2 [enMk mb l, .g b4, .g b6] [.rd l (xs.map intV)] := H2
  have start : ∀ w', LH (· = mb) w w' [enMk mb l, .g b4, .g b6] [.rd l (xs.map intV)] → LH (· = mb) w w' [enMk mb l, .g b4, .g b6, .row ty_enthymemeref04_Regex 4 ⟨none, 0, 0⟩ (([] : List Rt).flatMap Rt.c)] [.rd l (xs.map intV), .trees []] := fun w' H => by
    have H5 := H.nilrow ty_enthymemeref04_Regex 4
    exact H5.addD (.trees []) (Fr.refl _ _) (by show Rt.Ps w' []; unfold Rt.Ps; trivial) (fun b hb => by
      have := mem_nub.1 hb
      unfold Rt.fps at this
      cases this)
  have fin : ∀ (ks : List Rt) (sl : Sl) (w' : World), (ks.length ≤ 2 ∨ (ks.length ≤ 3 ∧ n = 3)) → Rt.szs ks ≤ ks.length * bz n → GoodN n ks → (6 ≤ k → ks.length = 1) → (∀ b ∈ Rt.fps ks, w.heap.size ≤ b) → LH (· = mb) w w' [enMk mb l, .g b4, .g b6, .row ty_enthymemeref04_Regex 4 sl (ks.flatMap Rt.c)] [.rd l (xs.map intV), .trees ks] →
      enthymemeref04_maker_regex.S2T b4 0 0 0 ⟨none, 0, 0⟩ b6 (k : Int) 0 0 sl w' (MkPost mb l w (MadeP (n + 1) w)) := by
    intro ks sl w' hlen hsz hg h6 hf H
    refine H.locg (bs := [b4, b6]) (fun w4 H4 => ⟨⟨.mk (k : Int) 0 0 sl ks, rfl, ?_, fun b hb => ?_, ?_, ?_⟩, H4.get 0, H4.fr⟩) (by simp)
    · unfold Rt.P
      exact ⟨OwnRow.rdn (H4.get 3), H4.getD 1⟩
    · unfold Rt.fp at hb
      rcases List.mem_append.1 hb with hb | hb
      · rcases H4.new _ (List.mem_of_getElem? (i := 3) rfl) b (rdn_own hb) with h | h
        · exact h
        · exfalso
          have nd := H4.nd
          have : b ∉ (En.row ty_enthymemeref04_Regex 4 sl (ks.flatMap Rt.c)).fp := fun hm => disj_of nd (i := 0) (j := 3) rfl rfl (by omega) b (by rw [h]; simp [enMk]) hm
          exact this (rdn_own hb)
      · exact hf b hb
    · show 1 + Rt.szs ks ≤ _
      have := hbz ks.length hlen
      omega
    · refine ⟨good_node h3 h7 hg.1 (fun h => by rw [Rt.rxs_map, List.length_map]; exact h6 h), ?_⟩
      show lvX (.mk (k : Int) 0 0 (Rt.rxs ks)) ≤ _
      rw [lv_mk]
      have := hlz ks.length hlen
      have := hg.2
      omega
  have grow : ∀ (ks : List Rt) (sl : Sl) (w' : World) (K : World → Sl → Prop), ks.length ≤ 10 → Rt.szs ks ≤ ks.length * bz n → GoodN n ks → (∀ b ∈ Rt.fps ks, w.heap.size ≤ b) → LH (· = mb) w w' [enMk mb l, .g b4, .g b6, .row ty_enthymemeref04_Regex 4 sl (ks.flatMap Rt.c)] [.rd l (xs.map intV), .trees ks] →
      (∀ (w5 : World) (s' : Sl) (u : Rt), Rt.szs (ks ++ [u]) ≤ (ks ++ [u]).length * bz n → GoodN n (ks ++ [u]) → (∀ b ∈ Rt.fps (ks ++ [u]), w.heap.size ≤ b) → LH (· = mb) w w5 [enMk mb l, .g b4, .g b6, .row ty_enthymemeref04_Regex 4 s' ((ks ++ [u]).flatMap Rt.c)] [.rd l (xs.map intV), .trees (ks ++ [u])] → K w5 s') →
      loc [b4, b6] w' fun w1 => callF [b4, b6] Tryz.prog n_enthymemeref04_maker_regex #[.pointer (some (at0 mb)), .int .i64 (IntKind.wrap .i64 (((n + 1 : Nat) : Int) - 1))] w1 fun r_ w2 => ∃ t66_0 : Int, ∃ t66_1 : Int, ∃ t66_2 : Int, ∃ t66_3 : Sl, r_ = .returned (.agg #[.int .i64 t66_0, .int .u8 t66_1, .int .u8 t66_2, t66_3.v]) ∧
        nwV w2 (.cells #[.int .i64 t66_0, .int .u8 t66_1, .int .u8 t66_2, t66_3.v] ty_enthymemeref04_Regex) fun w3 =>
        ∃ (t68 : Sl) (w4 : World), (Builtin.append_ #[ty_sl_enthymemeref04_Regex, ty_sl_enthymemeref04_Regex] ty_sl_enthymemeref04_Regex #[sl.v, .slice (some (Addr.mk w2.heap.size 0 none)) 1 1]).run Tryz.prog w3 = .ok (t68.v) w4 ∧ kept [b4, b6] w3 w4 ∧ loc [b4, b6] w4 fun w5 => K w5 t68 := by
    intro ks sl w' K hlen hsz hg hf H hK
    refine H.locg (bs := [b4, b6]) (fun w3 H3 => ?_) (by simp)
    rw [ed]
    refine H3.callM (bs := [b4, b6]) 0 rfl (fun hm => ih w3 hm (H3.getD 0)) ?_ (by simp)
    rintro _ w4 ⟨u, rfl, pu, fu, su, gu, vu⟩ H4 F4
    have H5 := F4 (.tree u) pu fun b hb => fu b (mem_nub.1 hb)
    have hn' := Rt.rows_n (H5.get 3 : OwnRow _ _ _ _ _).rdn
    refine ⟨_, _, _, _, rfl, LH.ap1T (bs := [b4, b6]) H5 3 el_rf rfl (fun s' w5 H6 => ?_) (by omega)⟩
    have H7 := (H6.snocT 1 2).take 4
    refine LH.locg (bs := [b4, b6]) (H7.forget [.rd l (xs.map intV), .trees (ks ++ [u])] (by simp)) (fun w7 H8 => hK w7 s' u ?_ ?_ ?_ ?_) (by simp)
    · rw [gszs_app, List.length_append, Nat.add_mul]
      simp [Rt.szs]
      omega
    · refine ⟨?_, ?_⟩
      · rw [rxs_app, goodL_app, hg.1, Bool.true_and]
        unfold Rt.rxs goodL
        rw [gu, Bool.true_and]
        unfold Rt.rxs goodL
        rfl
      · have h1 := hg.2
        rw [rxs_app, ms_app, List.length_append, Nat.add_mul]
        show _ + (lvX u.rx + 0) ≤ _ + 1 * lfz n
        omega
    · intro b hb
      obtain ⟨t', ht, hb'⟩ := Rt.fps_iff.1 hb
      rcases List.mem_append.1 ht with ht | ht
      · exact hf b (Rt.fps_iff.2 ⟨t', ht, hb'⟩)
      · simp at ht
        rw [ht] at hb'
        exact Nat.le_trans H3.fr.size (fu b hb')
    · rw [cs_snoc]
      exact H8
  have loop : ∀ (d i many : Nat) (ks : List Rt) (sl : Sl) (w' : World), i + d = many → (many ≤ 2 ∨ (many ≤ 3 ∧ n = 3)) → k ≤ 5 → ks.length = i → Rt.szs ks ≤ ks.length * bz n → GoodN n ks → (∀ b ∈ Rt.fps ks, w.heap.size ≤ b) → LH (· = mb) w w' [enMk mb l, .g b4, .g b6, .row ty_enthymemeref04_Regex 4 sl (ks.flatMap Rt.c)] [.rd l (xs.map intV), .trees ks] →
      enthymemeref04_maker_regex.L5T (at0 mb) ((n + 1 : Nat) : Int) b4 0 0 0 ⟨none, 0, 0⟩ b6 (k : Int) 0 0 sl (many : Int) (i : Int) w' (MkPost mb l w (MadeP (n + 1) w)) := by
    intro d
    induction d with
    | zero =>
      intro i many ks sl w' hi hm hk5 hl hsz hg hf H
      exact enthymemeref04_maker_regex.L5T_step _ _ _ _ _ _ _ _ _ _ _ _ _ _ _ _ (sel_false (decide_eq_false (by omega)) (fin ks sl w' (by omega) hsz hg (fun h => by omega) hf H))
    | succ d ihd =>
      intro i many ks sl w' hi hm hk5 hl hsz hg hf H
      refine enthymemeref04_maker_regex.L5T_step _ _ _ _ _ _ _ _ _ _ _ _ _ _ _ _ (sel_true (decide_eq_true (by omega)) (grow ks sl w' (fun w5 s' => enthymemeref04_maker_regex.L5T (at0 mb) ((n + 1 : Nat) : Int) b4 0 0 0 ⟨none, 0, 0⟩ b6 (k : Int) 0 0 s' (many : Int) (IntKind.wrap .i64 ((i : Int) + 1)) w5 (MkPost mb l w (MadeP (n + 1) w))) (by omega) hsz hg hf H (fun w5 s' u h1 h2 h3 H5 => ?_)))
      rw [i64_next _ (by omega)]
      exact ihd (i + 1) many (ks ++ [u]) s' w5 (by omega) hm hk5 (by simp [hl]) h1 h2 h3 H5
  have fps0 : ∀ b ∈ Rt.fps [], w.heap.size ≤ b := fun b hb => by unfold Rt.fps at hb; cases hb
  have kids : k ≤ 5 → ∀ w', LH (· = mb) w w' [enMk mb l, .g b4, .g b6] [.rd l (xs.map intV)] → enthymemeref04_maker_regex.S3T (at0 mb) ((n + 1 : Nat) : Int) b4 0 0 0 ⟨none, 0, 0⟩ b6 (k : Int) 0 0 ⟨none, 0, 0⟩ w' (MkPost mb l w (MadeP (n + 1) w)) := by
    intro hk5 w' H
    refine H.callM (bs := [b4, b6]) 0 rfl (fun hm => c_next mb l xs 3 (by omega) w' hm (H.getD 0) hx hd) ?_ (by simp)
    rintro _ w3 ⟨m, rfl, hm⟩ H3 _
    refine ⟨_, rfl, sel_eq (fun h4 => ?_) (fun h4 => ?_)⟩
    · refine H3.callM (bs := [b4, b6]) 0 rfl (fun hm => c_next mb l xs 4 (by omega) w3 hm (H3.getD 0) hx hd) ?_ (by simp)
      rintro _ w4 ⟨m2, rfl, hm2⟩ H4 _
      exact ⟨_, rfl, loop m2 0 m2 [] ⟨none, 0, 0⟩ w4 (by omega) (by omega) hk5 rfl (Nat.zero_le _) (goodN_nil n) fps0 (start w4 H4)⟩
    · exact loop m 0 m [] ⟨none, 0, 0⟩ w3 (by omega) (by omega) hk5 rfl (Nat.zero_le _) (goodN_nil n) fps0 (start w3 H3)
  have one : 6 ≤ k → ∀ w', LH (· = mb) w w' [enMk mb l, .g b4, .g b6] [.rd l (xs.map intV)] → enthymemeref04_maker_regex.S7T (at0 mb) ((n + 1 : Nat) : Int) b4 0 0 0 ⟨none, 0, 0⟩ b6 (k : Int) 0 0 ⟨none, 0, 0⟩ w' (MkPost mb l w (MadeP (n + 1) w)) := by
    intro hk6 w' H
    exact grow [] ⟨none, 0, 0⟩ w' (fun w5 s' => enthymemeref04_maker_regex.S2T b4 0 0 0 ⟨none, 0, 0⟩ b6 (k : Int) 0 0 s' w5 (MkPost mb l w (MadeP (n + 1) w))) (by simp) (Nat.zero_le _) (goodN_nil n) fps0 (start w' H) (fun w5 s' u h1 h2 h3 H5 => fin [u] s' w5 (.inl (by simp)) h1 h2 (fun _ => rfl) h3 H5)
  refine sel_eq (fun h => by omega) (fun _ => sel_eq (fun e3 => sel_eq (fun _ => ?_) (fun h => absurd e3 h)) (fun n3 => sel_eq (fun e4 => sel_eq (fun _ => ?_) (fun h => absurd e4 h)) (fun n4 => sel_eq (fun e5 => ?_) (fun n5 => ?_))))
  · exact H2.locg (bs := [b4, b6]) (fun w5 H5 => kids (by omega) w5 H5) (by simp)
  · exact H2.locg (bs := [b4, b6]) (fun w5 H5 => kids (by omega) w5 H5) (by simp)
  · exact H2.locg (bs := [b4, b6]) (fun w5 H5 => kids (by omega) w5 H5) (by simp)
  · refine H2.locg (bs := [b4, b6]) (fun w5 H5 => sel_eq (fun e6 => sel_eq (fun _ => one (by omega) w5 H5) (fun h => absurd e6 h)) (fun n6 => sel_eq (fun e7 => one (by omega) w5 H5) (fun n7 => by omega))) (by simp)
theorem c_mreg (hx : ∀ x ∈ xs, I64 x) (hd : ∀ b ∈ (En.rd l (xs.map intV)).fp, b ≠ mb) : ∀ n : Nat, 1 ≤ n → n ≤ 4 → MrOk mb l xs n
  | 0, h, _ => by omega
  | n + 1, _, h4 => fun w hk h => by
    have H := mk_start hk h hd
    have hb1 : 1 ≤ bz (n + 1) := by
      have : n = 0 ∨ n = 1 ∨ n = 2 ∨ n = 3 := by omega
      rcases this with rfl | rfl | rfl | rfl <;> decide
    have hb2 : 1 ≤ lfz (n + 1) := by
      have : n = 0 ∨ n = 1 ∨ n = 2 ∨ n = 3 := by omega
      rcases this with rfl | rfl | rfl | rfl <;> decide
    refine enthymemeref04_maker_regex.okT _ _ w _ (H.newg (bs := []) (fun b4 w1 H1 => ?_) (by simp))
    have H1 : LH (· = mb) w w1 [enMk mb l, .g b4] [.rd l (xs.map intV)] := H1
    refine H1.callM (bs := [b4]) 0 rfl (fun hm => c_next mb l xs 14 (by omega) w1 hm (H1.getD 0) hx hd) ?_ (by simp)
    rintro _ w2 ⟨k, rfl, hk14⟩ H2 _
    have leaf : enthymemeref04_maker_regex.S0T (at0 mb) ((n + 1 : Nat) : Int) b4 0 0 0 ⟨none, 0, 0⟩ w2 (MkPost mb l w (MadeP (n + 1) w)) := by
      refine H2.nw fun w3 _ H3 => H3.callM (bs := [b4]) 0 rfl (fun hm => c_next mb l xs 6 (by omega) w3 hm (H3.getD 0) hx hd) ?_ (by simp)
      rintro _ w4 ⟨q, rfl, hq⟩ H4 _
      obtain ⟨m, hm1, hm2⟩ := tabI q (by omega)
      refine ⟨_, rfl, by omega, by omega, optS ⟨(m : Int), by rw [Int.toNat_natCast, Nat.mul_one]; exact H4.ld 2 q rfl hm1, ?_⟩⟩
      exact mr_leaf hx hd (n + 1) hb1 hb2 m hm2 _ _ _ _ _ (H4.take 2)
    refine ⟨_, rfl, sel_dec (fun _ => leaf) (fun hd2 => sel_dec (fun _ => leaf) (fun hk7 => ?_))⟩
    by_cases hk2 : k ≤ 2
    · exact mr_leaf hx hd (n + 1) hb1 hb2 k hk2 _ _ _ _ _ H2
    · exact mr_node hx hd n (by omega) (by omega) (c_mreg hx hd n (by omega) (by omega)) k (by omega) (by omega) H2
end
end Go.Proofs.YtknlbofiicflgaaGreat
namespace Go.Proofs.YtknlbofiicflgaaGreat
open Go Go.W

/-- a valid expression of at most 22 nodes -/
def Made1 (w : World) : Post := fun r w' => ∃ t : Rt, r = .returned t.v ∧ t.P w' ∧ (∀ b ∈ t.fp, w.heap.size ≤ b) ∧ t.sz ≤ 22 ∧ goodR t.rx = true ∧ lvX t.rx ≤ 12
def Made0 (w : World) : Post := fun r w' => ∃ t : Rt, r = .returned t.v ∧ t.P w' ∧ (∀ b ∈ t.fp, w.heap.size ≤ b) ∧ t.sz ≤ 22 ∧ goodR t.rx = true
theorem c_Made1 (l : Sl) (xs : List Int) (w : World) (h : Nums w l xs) (hx : ∀ x ∈ xs, I64 x) : Calls Tryz.prog n_enthymemeref04_Made #[l.v] w fun r w' => Made1 w r w' ∧ Fr0 w w' := by
  refine enthymemeref04_Made.okT _ w _ ((lh0 [.rd l (xs.map intV)] (fun e he => by
    simp only [List.mem_cons, List.not_mem_nil, or_false] at he
    subst he
    exact h)).newg fun b2 w1 H1 => H1.nw fun w2 _ H2 => ?_)
  have hd : ∀ b ∈ (En.rd l (xs.map intV)).fp, b ≠ w1.heap.size := fun b hb e => by
    have := (En.rd l (xs.map intV)).lt w1 (H1.getD 0) b hb
    omega
  have H3 := H2.upd 1 (enMk w1.heap.size l) rfl (Fr.refl _ _) ⟨0, H2.ob 1⟩ (fun b hb => .inl (by simpa [enMk, En.ob] using hb))
  refine H3.callM (bs := [b2]) 1 rfl (fun hm => c_mreg hx hd 4 (by omega) (by omega) w2 hm (H3.getD 0)) ?_ (by simp)
  rintro _ w3 ⟨t, rfl, pt, ft, st, gt, vt⟩ H4 F4
  have H5 := F4 (.tree t) pt fun b hb => ft b (mem_nub.1 hb)
  refine ⟨_, _, _, _, rfl, LH.locg (bs := [b2]) H5 (fun w7 H7 => ⟨⟨t, rfl, H7.getD 1, fun b hb => Nat.le_trans H3.fr.size (ft b hb), st, gt, vt⟩, H7.fr⟩) (by simp)⟩
theorem c_Made (l : Sl) (xs : List Int) (w : World) (h : Nums w l xs) (hx : ∀ x ∈ xs, I64 x) : Calls Tryz.prog n_enthymemeref04_Made #[l.v] w fun r w' => Made0 w r w' ∧ Fr0 w w' :=
  (c_Made1 l xs w h hx).mono fun _ _ ⟨⟨t, h1, h2, h3, h4, h5, _⟩, f⟩ => ⟨⟨t, h1, h2, h3, h4, h5⟩, f⟩
end Go.Proofs.YtknlbofiicflgaaGreat
