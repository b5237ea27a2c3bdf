/- SameBytes; a slice of numbers that came in; changes beside two ends. -/
import Derived.Test.YtellmncndfmbbaaC5
import Derived.Test.YtellmncndfmbbaaVS
namespace Go.Proofs.Ytellmncndfmbbaa
open Go Go.W

theorem Bytes.cell {w : World} {s : Sl} {bs : List UInt8} (h : Bytes w s bs) {i j : Nat} {b : UInt8} (hi : bs[i]? = some b) (hj : j = i * 1) {K : Addr → Prop} (hk : ∀ p, w.cell? (p.add j) = some (.int .u8 (b.toNat : Int)) → K p) : W.optP s.a K := by
  subst hj
  refine h.2.optP (i := i) (v := byteV b) (by simp [hi]) fun p _ hc => hk p ?_
  rw [Nat.mul_one]
  exact hc i (byteV b) (by simp [hi])

theorem same_bytes {w : World} {s t : Sl} {a b : List UInt8} (ha : Bytes w s a) (hb : Bytes w t b) (hl : a.length ≤ 1000000) :
    Calls Try.prog n_enthymemeref01_SameBytes #[s.v, t.v] w fun r w' => r = .returned (.bool (decide (a = b))) ∧ Fr0 w w' := by
  have hn := ha.1
  have hm := hb.1
  refine enthymemeref01_SameBytes.ok s t w _ ?_
  unfold enthymemeref01_SameBytes.S0 enthymemeref01_SameBytes.S1
  refine sel_intro (fun h => ?_) (fun h => ?_)
  · unfold enthymemeref01_SameBytes.S2
    refine ⟨?_, Fr.refl _ _⟩
    have : a ≠ b := fun e => by subst e; rw [hn, hm] at h; simp at h
    simp [this]
  · have hlen : a.length = b.length := by rw [hn, hm] at h; simp at h; omega
    unfold enthymemeref01_SameBytes.S3
    have main : ∀ (n i : Nat), i + n = a.length → a.take i = b.take i → ∀ w', Fr0 w w' → enthymemeref01_SameBytes.L4 s t (i : Int) w' fun r w' => r = .returned (.bool (decide (a = b))) ∧ Fr0 w w' := by
      intro n
      induction n with
      | zero =>
        intro i hi he w' hf
        refine enthymemeref01_SameBytes.L4_step _ _ _ _ _ ?_
        unfold enthymemeref01_SameBytes.S5 enthymemeref01_SameBytes.S9
        refine sel_false (by rw [hn]; simp; omega) ⟨?_, hf⟩
        rw [List.take_of_length_le (by omega), List.take_of_length_le (by omega)] at he
        simp [he]
      | succ n ih =>
        intro i hi he w' hf
        have hia : a[i]? = some a[i] := List.getElem?_eq_getElem (by omega)
        have hib : b[i]? = some b[i] := List.getElem?_eq_getElem (by omega)
        refine enthymemeref01_SameBytes.L4_step _ _ _ _ _ ?_
        unfold enthymemeref01_SameBytes.S5 enthymemeref01_SameBytes.S6
        have fd : Fr0 w w'.drew := hf.trans (Fr.drew _ _) fun _ _ h => h
        refine sel_true (by rw [hn]; simp; omega) ⟨by omega, by rw [hn]; omega, (ha.fr0 fd).cell hia (by simp) fun p hp => ⟨_, hp, by omega, by rw [hm]; omega, (hb.fr0 fd).cell hib (by simp) fun q hq => ⟨_, hq, sel_intro (fun h => ?_) (fun h => ?_)⟩⟩⟩
        · unfold enthymemeref01_SameBytes.S7
          refine ⟨?_, fd⟩
          have : a ≠ b := fun e => by subst e; simp at h
          simp [this]
        · unfold enthymemeref01_SameBytes.S8
          rw [show IntKind.wrap .i64 ((i : Int) + 1) = ((i + 1 : Nat) : Int) from by rw [IntWalk.i64_in _ (by omega)]; omega]
          refine ih (i + 1) (by omega) ?_ _ fd
          have e : a[i] = b[i] := by
            have h' : ((a[i].toNat : Nat) : Int) = (b[i].toNat : Int) := by simpa using h
            exact UInt8.toNat_inj.1 (by omega)
          rw [List.take_add_one, List.take_add_one, hia, hib, he, e]
    exact main a.length 0 (by omega) (by simp) w (Fr.refl _ _)

/-- a slice of numbers that came in -/
def Ints (w : World) (s : Sl) : Prop := ∀ i, i < s.n → ∃ p v, s.a = some p ∧ w.cell? (p.add i) = some (.int .i64 v) ∧ -9223372036854775808 ≤ v ∧ v ≤ 9223372036854775807
theorem Fr.cell0 {w w' : World} (h : Fr0 w w') {p : Addr} {v : Value} (hc : w.cell? p = some v) : w'.cell? p = some v := by
  unfold World.cell? at hc ⊢
  cases e : w.heap[p.block]? with
  | none => rw [e] at hc; simp at hc
  | some o => rw [h.at e id]; rw [e] at hc; exact hc
theorem Ints.fr0 {w w' : World} {s : Sl} (h : Ints w s) (hf : Fr0 w w') : Ints w' s := fun i hi => by
  obtain ⟨p, v, h1, h2, h3⟩ := h i hi
  exact ⟨p, v, h1, Fr.cell0 hf h2, h3⟩
theorem Ints.at {w : World} {s : Sl} (h : Ints w s) {i j : Nat} (hi : i < s.n) (hj : j = i * 1) {K : Addr → Prop} (hk : ∀ p v, w.cell? (p.add j) = some (.int .i64 v) → -9223372036854775808 ≤ v → v ≤ 9223372036854775807 → K p) : W.optP s.a K := by
  obtain ⟨p, v, h1, h2, h3, h4⟩ := h i hi
  rw [h1]
  exact hk p v (by rw [hj, Nat.mul_one]; exact h2) h3 h4

/-- a change beside the ends -/
theorem Two.any {w0 w w' : World} {be : Nat} {eb : Nat → Nat} {st : Nat → St} {own : Nat → List Nat} {M : Nat → Prop} (h : Two w0 w be eb st own) (f : Fr M w w') (h1 : ∀ b, M b → w0.heap.size ≤ b) (h2 : ¬ M be) (h3 : ∀ k, k < 2 → ∀ b ∈ own k, ¬ M b)
    (h4 : ∀ b, M b → ∀ cs f, w.heap[b]? ≠ some (.cells cs ty_uint8 f)) : Two w0 w' be eb st own :=
  ⟨h.fr.trans f fun x hx hm => by have := h1 x hm; omega, h.nbe, f.at h.row h2, fun i hi => (h.rep i hi).fr f (h3 i hi) h4, h.new, h.dis⟩
theorem two_congr {w0 w : World} {be : Nat} {eb : Nat → Nat} {st st' : Nat → St} {own own' : Nat → List Nat} (h : Two w0 w be eb st own) (hs : ∀ k, k < 2 → st k = st' k) (ho : ∀ k, k < 2 → own k = own' k) : Two w0 w be eb st' own' :=
  ⟨h.fr, h.nbe, h.row, fun k hk => by rw [← hs k hk, ← ho k hk]; exact h.rep k hk, fun k hk => by rw [← ho k hk]; exact h.new k hk, fun j k hj hk => by rw [← ho k hk, ← ho j hj]; exact h.dis j k hj hk⟩
/-- different types, different blocks -/
theorem ne_typ {w : World} {b b' : Nat} {cs cs' : Array Value} {T T' : TypeId} {f f' : Nat × Nat} (h : w.heap[b]? = some (.cells cs T f)) (h' : w.heap[b']? = some (.cells cs' T' f')) (hT : T ≠ T') : b ≠ b' := fun e => by
  subst e
  rw [h] at h'
  injection h' with h'
  injection h' with _ ht _
  exact hT ht
theorem cells_typ {w : World} {b : Nat} {cs cs' : Array Value} {T T' : TypeId} {f f' : Nat × Nat} (h : w.heap[b]? = some (.cells cs T f)) (hT : T ≠ T') : w.heap[b]? ≠ some (.cells cs' T' f') := fun h' => ne_typ h h' hT rfl
theorem row_ne {w : World} {T T' : TypeId} {s : Sl} {vs : List Value} (h : Row w T s vs) {b : Nat} {cs : Array Value} {f : Nat × Nat} (hb : w.heap[b]? = some (.cells cs T' f)) (hT : T ≠ T') : b ∉ blkL s := fun hm => by
  obtain ⟨cs', f', hc⟩ := h.typ b hm
  exact ne_typ hc hb hT rfl
theorem row_noTyp {w : World} {T T' : TypeId} {s : Sl} {vs : List Value} (h : Row w T s vs) (hT : T ≠ T') : ∀ b ∈ blkL s, ∀ cs f, w.heap[b]? ≠ some (.cells cs T' f) := fun _ hm _ _ hc => row_ne h hc hT hm
theorem row_dis {w : World} {T T' : TypeId} {s s' : Sl} {vs vs' : List Value} (h : Row w T s vs) (h' : Row w T' s' vs') (hT : T ≠ T') : ∀ b ∈ blkL s, b ∉ blkL s' := fun b hb hm => by
  obtain ⟨cs', f', hc⟩ := h.typ b hb
  exact row_ne h' hc (Ne.symm hT) hm
theorem el_ints : ElemOk Try.prog ty_sl_int ty_int (.int .i64 0) 1 8 := ⟨by kernel_rfl, by kernel_rfl, rfl, by decide, by decide⟩
theorem cell2v {w : World} {b : Nat} {T : TypeId} {x : Nat → Value} (h : w.heap[b]? = some (.cells #[x 0, x 1] T (0, 0))) {k j : Nat} (hk : k < 2) (hj : j = k * 1) : w.cell? ((at0 b).add j) = some (x k) := by
  subst hj
  rw [Nat.mul_one]
  refine cellAt (p := at0 b) h rfl ?_
  match k, hk with
  | 0, _ => rfl
  | 1, _ => rfl
theorem set2v {w : World} {b : Nat} {T : TypeId} {x : Nat → Value} (h : w.heap[b]? = some (.cells #[x 0, x 1] T (0, 0))) {k j : Nat} (hk : k < 2) (hj : j = k * 1) (v : Value) : (w.setCell ((at0 b).add j) v).heap[b]? = some (.cells #[upd x k v 0, upd x k v 1] T (0, 0)) := by
  subst hj
  rw [Nat.mul_one]
  have := setAt (p := at0 b) (i := k) (v := v) h rfl
  rw [this]
  match k, hk with
  | 0, _ => rfl
  | 1, _ => rfl
end Go.Proofs.Ytellmncndfmbbaa
