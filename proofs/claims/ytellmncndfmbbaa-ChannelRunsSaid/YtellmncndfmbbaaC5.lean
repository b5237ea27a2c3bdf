/- The two ends of a channel, as the laws hold them. -/
import Derived.Test.YtellmncndfmbbaaC4
import Derived.Test.YtellmncndfmbbaaVE
namespace Go.Proofs.Ytellmncndfmbbaa
open Go Go.W

def upd {α : Type} (f : Nat → α) (k : Nat) (v : α) : Nat → α := fun i => if i = k then v else f i
theorem upd_same {α : Type} (f : Nat → α) (k : Nat) (v : α) : upd f k v k = v := by simp [upd]
theorem upd_ne {α : Type} (f : Nat → α) {k i : Nat} (v : α) (h : i ≠ k) : upd f k v i = f i := by simp [upd, h]

structure Two (w0 w : World) (be : Nat) (eb : Nat → Nat) (st : Nat → St) (own : Nat → List Nat) : Prop where
  fr : Fr0 w0 w
  nbe : w0.heap.size ≤ be
  row : w.heap[be]? = some (.cells #[.pointer (some (at0 (eb 0))), .pointer (some (at0 (eb 1)))] ty_p_channel_End (0, 0))
  rep : ∀ k, k < 2 → EndRep w (eb k) (st k) (own k)
  new : ∀ k, k < 2 → ∀ b ∈ own k, w0.heap.size ≤ b
  dis : ∀ j k, j < 2 → k < 2 → j ≠ k → ∀ b ∈ own j, b ∉ own k

/-- an operation on one end -/
theorem Two.step {w0 w w' : World} {be : Nat} {eb : Nat → Nat} {st : Nat → St} {own : Nat → List Nat} (h : Two w0 w be eb st own) {k : Nat} (hk : k < 2) {st' : St} {own' : List Nat}
    (r : EndRep w' (eb k) st' own') (f : Fr (· ∈ own k) w w') (oo : ∀ x ∈ own', x ∈ own k ∨ w.heap.size ≤ x) : Two w0 w' be eb (upd st k st') (upd own k own') := by
  have hr := h.rep k hk
  refine ⟨fr0_of h.fr (h.new k hk) f, h.nbe, f.at h.row (fun hb => hr.noTyp (T := ty_p_channel_End) (by decide) (by decide) be hb _ _ h.row), fun i hi => ?_, fun i hi b hb => ?_, fun i j hi hj hij b hb => ?_⟩
  · by_cases e : i = k
    · subst e; rw [upd_same, upd_same]; exact r
    · rw [upd_ne _ _ e, upd_ne _ _ e]
      exact (h.rep i hi).end hr (h.dis i k hi hk e) f
  · by_cases e : i = k
    · subst e; rw [upd_same] at hb; exact new_of h.fr (h.new i hi) oo b hb
    · rw [upd_ne _ _ e] at hb; exact h.new i hi b hb
  · by_cases e : i = k
    · subst e
      rw [upd_same] at hb
      rw [upd_ne _ _ (Ne.symm hij)]
      intro hm
      rcases oo b hb with h1 | h1
      · exact h.dis i j hi hj hij b h1 hm
      · have := (h.rep j hj).lt b hm; omega
    · rw [upd_ne _ _ e] at hb
      by_cases e' : j = k
      · subst e'
        rw [upd_same]
        intro hm
        rcases oo b hm with h1 | h1
        · exact h.dis i j hi hj hij b hb h1
        · have := (h.rep i hi).lt b hb; omega
      · rw [upd_ne _ _ e']
        exact h.dis i j hi hj hij b hb
/-- a store elsewhere -/
theorem Two.other {w0 w w' : World} {be : Nat} {eb : Nat → Nat} {st : Nat → St} {own : Nat → List Nat} {M : Nat → Prop} (h : Two w0 w be eb st own) (f : Fr M w w') (hM : ∀ b, M b → w0.heap.size ≤ b ∧ (∃ cs fz, w.heap[b]? = some (.cells cs ty_int fz))) : Two w0 w' be eb st own := by
  refine ⟨h.fr.trans f fun x hx hm => by have := (hM x hm).1; omega, h.nbe, f.at h.row (fun hb => by
    obtain ⟨_, cs, fz, hc⟩ := hM be hb
    rw [h.row] at hc
    injection hc with hc
    injection hc with _ ht _
    exact absurd ht (by decide)), fun i hi => (h.rep i hi).fr f (fun b hb hm => ?_) (fun b hm cs fz hc => ?_), h.new, h.dis⟩
  · obtain ⟨_, cs, fz, hc⟩ := hM b hm
    exact (h.rep i hi).noTyp (T := ty_int) (by decide) (by decide) b hb cs fz hc
  · obtain ⟨_, cs', fz', hc'⟩ := hM b hm
    rw [hc'] at hc
    injection hc with hc
    injection hc with _ ht _
    exact absurd ht (by decide)
theorem Two.fr0 {w0 w w' : World} {be : Nat} {eb : Nat → Nat} {st : Nat → St} {own : Nat → List Nat} (h : Two w0 w be eb st own) (f : Fr0 w w') : Two w0 w' be eb st own :=
  h.other f fun _ h => h.elim
/-- the pointer to an end -/
theorem Two.ptr {w0 w : World} {be : Nat} {eb : Nat → Nat} {st : Nat → St} {own : Nat → List Nat} (h : Two w0 w be eb st own) {k j : Nat} (hk : k < 2) (hj : j = k * 1) : w.cell? ((at0 be).add j) = some (.pointer (some (at0 (eb k)))) := by
  subst hj
  rw [Nat.mul_one]
  refine cellAt (p := at0 be) h.row rfl ?_
  match k, hk with
  | 0, _ => rfl
  | 1, _ => rfl
/-- a block that is none of the ends' -/
theorem Two.not_own {w0 w : World} {be : Nat} {eb : Nat → Nat} {st : Nat → St} {own : Nat → List Nat} (h : Two w0 w be eb st own) {k b : Nat} {T : TypeId} {cs : Array Value} {f : Nat × Nat} (hk : k < 2) (hb : w.heap[b]? = some (.cells cs T f)) (h1 : T ≠ ty_channel_End) (h2 : T ≠ ty_sl_uint8) : b ∉ own k :=
  fun hm => (h.rep k hk).noTyp h1 h2 b hm cs f hb

def win0 (window : Int) : Nat → Int := fun k => if k = 0 then 1 + aroundI window 16 else 1 + aroundI (Int.tdiv window 16) 16
def EndsPost (window : Int) (w : World) : Post := fun r w' => ∃ be eb own, r = .returned (.slice (some (at0 be)) 2 2) ∧ Two w w' be eb (fun k => ⟨win0 window k, 0, 0, [], [], false⟩) own
theorem win0_range (window : Int) (k : Nat) : 1 ≤ win0 window k ∧ win0 window k ≤ 16 := by
  unfold win0
  have h1 := aroundI_range window 16 (by omega)
  have h2 := aroundI_range (Int.tdiv window 16) 16 (by omega)
  split <;> omega
theorem tdiv_range (n : Int) (h1 : -9223372036854775808 ≤ n) (h2 : n ≤ 9223372036854775807) : -9223372036854775808 ≤ Int.tdiv n 16 ∧ Int.tdiv n 16 ≤ 9223372036854775807 := by
  have e : n.tdiv 16 * 16 + n.tmod 16 = n := by have := Int.tmod_add_mul_tdiv n 16; omega
  have a : -16 < n.tmod 16 := by have := Int.lt_tmod_of_pos n (b := 16) (by omega); omega
  have b : n.tmod 16 < 16 := Int.tmod_lt_of_pos n (by omega)
  omega
theorem ends_any (window : Int) (w : World) (h1 : -9223372036854775808 ≤ window) (h2 : window ≤ 9223372036854775807) : Calls Try.prog n_enthymemelaw38_ends #[.int .i64 window] w (EndsPost window w) := by
  refine enthymemelaw38_ends.ok window w _ ?_
  unfold enthymemelaw38_ends.S0 enthymemelaw38_ends.S1
  have r1 := aroundI_range window 16 (by omega)
  have r2 := aroundI_range (Int.tdiv window 16) 16 (by omega)
  have td := tdiv_range window h1 h2
  refine (around_any window 16 w (by omega) h1 h2).mono ?_
  rintro r w1 ⟨rfl, rfl⟩
  refine ⟨_, rfl, ?_⟩
  rw [show IntKind.wrap .i64 (1 + aroundI window 16) = 1 + aroundI window 16 from IntWalk.i64_in _ (by omega)]
  refine (new_any _ w).mono ?_
  intro r w1 h
  unfold NewPost at h
  rw [if_pos (by omega)] at h
  obtain ⟨ea, oa, rfl, ra, f1, na⟩ := h
  refine ⟨_, _, rfl, ?_⟩
  unfold enthymemelaw38_ends.S2
  rw [show IntKind.wrap .i64 (Int.tdiv window 16) = Int.tdiv window 16 from IntWalk.i64_in _ (by omega)]
  refine (around_any _ 16 w1 (by omega) td.1 td.2).mono ?_
  rintro r w2 ⟨rfl, rfl⟩
  refine ⟨_, rfl, ?_⟩
  rw [show IntKind.wrap .i64 (1 + aroundI (Int.tdiv window 16) 16) = 1 + aroundI (Int.tdiv window 16) 16 from IntWalk.i64_in _ (by omega)]
  refine (new_any _ w1).mono ?_
  intro r w2 h
  unfold NewPost at h
  rw [if_pos (by omega)] at h
  obtain ⟨e2, o2, rfl, rb, f2, nb⟩ := h
  refine ⟨_, _, rfl, ?_⟩
  unfold enthymemelaw38_ends.S3 enthymemelaw38_ends.S5
  refine sel_false rfl (sel_false rfl (sel_false rfl (sel_false rfl ?_)))
  intro w3
  have f3 : Fr0 w2 w3 := Fr.alloc _ _ _
  have F2 : Fr0 w w2 := f1.trans f2 fun _ _ h => h
  have D : ∀ x ∈ oa, x ∉ o2 := fun x hx hm => by
    have g1 := nb x hm
    have g2 := ra.lt x hx
    omega
  refine ⟨w2.heap.size, fun k => if k = 0 then ea else e2, fun k => if k = 0 then oa else o2, rfl, F2.trans f3 fun _ _ h => h, F2.size, heap_new _ _, fun k hk => ?_, fun k hk b hb => ?_, fun j k hj hk hjk b hb => ?_⟩
  · match k, hk with
    | 0, _ => exact (ra.fr0 f2).fr0 f3
    | 1, _ => exact rb.fr0 f3
  · match k, hk with
    | 0, _ => exact na b hb
    | 1, _ => exact Nat.le_trans f1.size (nb b hb)
  · match j, hj, k, hk with
    | 0, _, 0, _ => exact absurd rfl hjk
    | 0, _, 1, _ => exact D b hb
    | 1, _, 0, _ => exact fun hm => D b hm hb
    | 1, _, 1, _ => exact absurd rfl hjk
end Go.Proofs.Ytellmncndfmbbaa
