/- ChannelOrder, the plain part. -/
import Derived.Test.YtellmncndfmbbaaC6
namespace Go.Proofs.Ytellmncndfmbbaa
open Go Go.W
namespace Ord
abbrev Msg := List UInt8
def E (win : Int) (S : List Msg) (a d : Nat) (held : List (Int × Msg)) (ow : Bool) : St := ⟨win, S.length, d, S.drop a, held, ow⟩
def HeldOk (T : List Msg) (held : List (Int × Msg)) : Prop := ∀ p ∈ held, ∃ i : Nat, p.1 = (i + 1 : Nat) ∧ T[i]? = some p.2
theorem HeldOk.more {T : List Msg} {held : List (Int × Msg)} (h : HeldOk T held) (U : List Msg) : HeldOk (T ++ U) held := fun p hp => by
  obtain ⟨i, h1, h2⟩ := h p hp
  exact ⟨i, h1, by rw [List.getElem?_append_left (List.getElem?_eq_some_iff.1 h2).1]; exact h2⟩
def PkOk (T : List Msg) (A : Nat) (p : Pk) : Prop := ∃ k : Nat, p.ack = k ∧ k ≤ A ∧ ((p.seq = 0 ∧ p.b = []) ∨ ∃ i : Nat, p.seq = (i + 1 : Nat) ∧ T[i]? = some p.b)
theorem PkOk.more {T : List Msg} {A : Nat} {p : Pk} (h : PkOk T A p) (U : List Msg) {B : Nat} (hB : A ≤ B) : PkOk (T ++ U) B p := by
  obtain ⟨k, h1, h2, h3⟩ := h
  refine ⟨k, h1, by omega, ?_⟩
  rcases h3 with h | ⟨i, hi, ht⟩
  · exact .inl h
  · exact .inr ⟨i, hi, by rw [List.getElem?_append_left (List.getElem?_eq_some_iff.1 ht).1]; exact ht⟩

theorem mget_held {T : List Msg} {held : List (Int × Msg)} {d : Nat} {b : Msg} (h : HeldOk T held) (hm : mgetB held ((d : Int) + 1) = some b) : T[d]? = some b := by
  unfold mgetB at hm
  cases e : held.find? fun p => p.1 == (d : Int) + 1 with
  | none => rw [e] at hm; simp at hm
  | some p =>
    rw [e] at hm
    simp at hm
    obtain ⟨i, h1, h2⟩ := h p (List.mem_of_find?_eq_some e)
    have h3 := List.find?_some e
    simp at h3
    have : i = d := by omega
    subst this
    rw [h2, hm]
theorem take_more {T : List Msg} {d d' : Nat} {b : Msg} (hb : T[d]? = some b) (hd : d + 1 ≤ d') : (T.drop d).take (d' - d) = b :: (T.drop (d + 1)).take (d' - (d + 1)) := by
  obtain ⟨hlt, he⟩ := List.getElem?_eq_some_iff.1 hb
  rw [List.drop_eq_getElem_cons hlt, he, show d' - d = (d' - (d + 1)) + 1 by omega, List.take_succ_cons]
theorem drain_ok (T : List Msg) (win : Int) (S : List Msg) (a : Nat) (ow : Bool) : ∀ (n d : Nat) (held : List (Int × Msg)) (out : List Msg), d ≤ T.length → HeldOk T held →
    ∃ d' held', d ≤ d' ∧ d' ≤ T.length ∧ HeldOk T held' ∧ held'.length ≤ held.length ∧ drain n (E win S a d held ow) out = (E win S a d' held' ow, out ++ (T.drop d).take (d' - d))
  | 0, d, held, out, hd, hh => ⟨d, held, Nat.le_refl _, hd, hh, Nat.le_refl _, by simp [drain]⟩
  | n + 1, d, held, out, hd, hh => by
    unfold drain
    cases e : mgetB (E win S a d held ow).held ((E win S a d held ow).dlv + 1) with
    | none => exact ⟨d, held, Nat.le_refl _, hd, hh, Nat.le_refl _, by simp⟩
    | some b =>
      have hb : T[d]? = some b := mget_held hh e
      have hlt := (List.getElem?_eq_some_iff.1 hb).1
      obtain ⟨d', held', h1, h2, h3, h4, h5⟩ := drain_ok T win S a ow n (d + 1) (held.eraseP fun p => p.1 == (d : Int) + 1) (out ++ [b]) (by omega) (fun p hp => hh p (List.mem_of_mem_eraseP hp))
      have h6 : (held.eraseP fun p => p.1 == (d : Int) + 1).length ≤ held.length := (List.eraseP_sublist).length_le
      refine ⟨d', held', by omega, h2, h3, by omega, ?_⟩
      rw [take_more hb h1]
      rw [List.append_assoc] at h5
      exact h5
theorem in_ok (T : List Msg) (win : Int) (S : List Msg) (a d : Nat) (held : List (Int × Msg)) (ow : Bool) (A : Nat) (p : Pk) (hp : PkOk T A p) (hd : d ≤ T.length) (hh : HeldOk T held) (ha : a ≤ S.length) :
    ∃ a' d' held' ow', a' ≤ max a A ∧ d ≤ d' ∧ d' ≤ T.length ∧ HeldOk T held' ∧ held'.length ≤ held.length + 1 ∧ inSt (E win S a d held ow) p.seq p.ack p.b = (E win S a' d' held' ow', (T.drop d).take (d' - d)) := by
  obtain ⟨q, ak, b⟩ := p
  obtain ⟨k, rfl, hk, hc⟩ := hp
  simp only at hc
  have eack : ackOf (E win S a d held ow) = a := by simp [ackOf, E]; omega
  have eia : inAck (E win S a d held ow) k = E win S (max a k) d held ow := by
    unfold inAck
    rw [eack]
    split
    · simp only [E, St.mk.injEq, true_and, and_true, List.drop_drop]
      congr 1; omega
    · rw [show max a k = a by omega]
  unfold inSt
  split
  · exact ⟨a, d, held, ow, by omega, by omega, hd, hh, by omega, by simp⟩
  · split
    · exact ⟨max a k, d, held, ow, by omega, by omega, hd, hh, by omega, by rw [eia]; simp⟩
    · rename_i hq
      rcases hc with ⟨h, _⟩ | ⟨i, hqi, hT⟩
      · exact absurd h hq
      · simp only [eia]
        have : ∃ held', HeldOk T held' ∧ held'.length ≤ held.length + 1 ∧ inHold (E win S (max a k) d held ow) q b = E win S (max a k) d held' true := by
          unfold inHold
          split
          · refine ⟨held ++ [(q, b)], fun p hp => ?_, by simp, rfl⟩
            rcases List.mem_append.1 hp with h | h
            · exact hh p h
            · simp at h; subst h; exact ⟨i, hqi, hT⟩
          · exact ⟨held, hh, by omega, rfl⟩
        obtain ⟨held', g1, g2, g3⟩ := this
        rw [g3]
        obtain ⟨d', held'', h1, h2, h3, h4, h5⟩ := drain_ok T win S (max a k) true ((E win S (max a k) d held' true).held.length + 1) d held' [] hd g1
        exact ⟨max a k, d', held'', true, by omega, h1, h2, h3, by omega, by rw [h5]; simp⟩
theorem out_ok (win : Int) (S : List Msg) (a d : Nat) (held : List (Int × Msg)) (ow : Bool) (ha : a ≤ S.length) (hw : win ≤ 16) : (outList (E win S a d held ow)).length ≤ 16 ∧ ∀ p ∈ outList (E win S a d held ow), PkOk S d p := by
  have hn : outN (E win S a d held ow) ≤ 16 := by unfold outN; simp only [E]; omega
  unfold outList
  split
  · refine ⟨by simp, fun p hp => ?_⟩
    simp at hp
    subst hp
    exact ⟨d, rfl, Nat.le_refl _, .inl ⟨rfl, rfl⟩⟩
  · refine ⟨by simpa using hn, fun p hp => ?_⟩
    obtain ⟨i, hi, rfl⟩ := List.mem_map.1 hp
    have hi' : i < outN (E win S a d held ow) := by simpa using hi
    have hlt : i < (S.drop a).length := by unfold outN at hi'; simp only [E] at hi'; omega
    refine ⟨d, rfl, Nat.le_refl _, .inr ⟨a + i, ?_, ?_⟩⟩
    · unfold outPk
      have eack : ackOf (E win S a d held ow) = a := by simp [ackOf, E]; omega
      rw [eack]; simp only; omega
    · unfold outPk
      simp only [E, List.getD_eq_getElem?_getD]
      rw [List.getElem?_drop]
      rw [List.length_drop] at hlt
      rw [List.getElem?_eq_getElem (by omega)]
      rfl

structure Pl (S : Nat → List Msg) (a d : Nat → Nat) (held : Nat → List (Int × Msg)) (L : List Pk) (tos : List Nat) (i : Nat) : Prop where
  ad : ∀ k, k < 2 → a k ≤ d (1 - k)
  ds : ∀ k, k < 2 → d (1 - k) ≤ (S k).length
  he : ∀ k, k < 2 → HeldOk (S (1 - k)) (held k)
  hl : ∀ k, k < 2 → (held k).length ≤ i
  sl : ∀ k, k < 2 → (S k).length ≤ i
  sb : ∀ k, k < 2 → ∀ m ∈ S k, m.length ≤ 65536
  ll : L.length = tos.length ∧ L.length ≤ 16 * i
  lk : ∀ (j : Nat) (p : Pk) (t : Nat), L[j]? = some p → tos[j]? = some t → t < 2 ∧ PkOk (S (1 - t)) (d (1 - t)) p
theorem Pl.ok {S : Nat → List Msg} {a d : Nat → Nat} {held : Nat → List (Int × Msg)} {L : List Pk} {tos : List Nat} {i : Nat} (h : Pl S a d held L tos i) (hi : i ≤ 100) {win : Int} (h1 : 1 ≤ win) (h2 : win ≤ 16) (ow : Bool) {k : Nat} (hk : k < 2) : (E win (S k) (a k) (d k) (held k) ow).Ok := by
  have := h.sl k hk
  have h3 := h.ds (1 - k) (by omega)
  have h4 := h.sl (1 - k) (by omega)
  rw [show 1 - (1 - k) = k by omega] at h3
  refine ok_of _ (by simp [E]) (by simp [E]; omega) (by simp [E]) (by simp [E]; omega) (by simp [E]; omega) (by simp [E]) (fun m hm => h.sb k hk m (List.mem_of_mem_drop hm)) (fun p hp => ?_) h1 h2
  obtain ⟨j, _, hj⟩ := h.he k hk p hp
  exact h.sb (1 - k) (by omega) _ (List.mem_of_getElem? hj)
theorem Pl.next {S : Nat → List Msg} {a d : Nat → Nat} {held : Nat → List (Int × Msg)} {L : List Pk} {tos : List Nat} {i : Nat} (h : Pl S a d held L tos i) : Pl S a d held L tos (i + 1) :=
  ⟨h.ad, h.ds, h.he, fun k hk => by have := h.hl k hk; omega, fun k hk => by have := h.sl k hk; omega, h.sb, by have := h.ll; omega, h.lk⟩
theorem Pl.send {S : Nat → List Msg} {a d : Nat → Nat} {held : Nat → List (Int × Msg)} {L : List Pk} {tos : List Nat} {i : Nat} (h : Pl S a d held L tos i) {k : Nat} (hk : k < 2) (m : Msg) (hm : m.length ≤ 65536) : Pl (upd S k (S k ++ [m])) a d held L tos (i + 1) := by
  have ex : ∀ j, ∃ U, upd S k (S k ++ [m]) j = S j ++ U ∧ U.length ≤ 1 ∧ ∀ x ∈ U, x.length ≤ 65536 := fun j => by
    by_cases e : j = k
    · subst e; exact ⟨[m], upd_same _ _ _, by simp, by simpa using hm⟩
    · exact ⟨[], by rw [upd_ne _ _ e]; simp, by simp, by simp⟩
  refine ⟨h.ad, fun j hj => ?_, fun j hj => ?_, fun j hj => by have := h.hl j hj; omega, fun j hj => ?_, fun j hj x hx => ?_, by have := h.ll; omega, fun j p t h1 h2 => ?_⟩
  · obtain ⟨U, e, hU, _⟩ := ex j
    rw [e, List.length_append]; have := h.ds j hj; omega
  · obtain ⟨U, e, hU, _⟩ := ex (1 - j)
    rw [e]; exact (h.he j hj).more U
  · obtain ⟨U, e, hU, _⟩ := ex j
    rw [e, List.length_append]; have := h.sl j hj; omega
  · obtain ⟨U, e, hU, hl⟩ := ex j
    rw [e] at hx
    rcases List.mem_append.1 hx with g | g
    · exact h.sb j hj x g
    · exact hl x g
  · obtain ⟨U, e, hU, hl⟩ := ex (1 - t)
    rw [e]
    obtain ⟨g1, g2⟩ := h.lk j p t h1 h2
    exact ⟨g1, g2.more U (Nat.le_refl _)⟩
theorem Pl.out {S : Nat → List Msg} {a d : Nat → Nat} {held : Nat → List (Int × Msg)} {L : List Pk} {tos : List Nat} {i : Nat} (h : Pl S a d held L tos i) {k : Nat} (hk : k < 2) (l : List Pk) (hl : l.length ≤ 16) (hp : ∀ p ∈ l, PkOk (S k) (d k) p) : Pl S a d held (L ++ l) (tos ++ List.replicate l.length (1 - k)) (i + 1) := by
  refine ⟨h.ad, h.ds, h.he, fun k hk => by have := h.hl k hk; omega, fun k hk => by have := h.sl k hk; omega, h.sb, by have := h.ll; simp; omega, fun j p t h1 h2 => ?_⟩
  by_cases hj : j < L.length
  · rw [List.getElem?_append_left hj] at h1
    rw [List.getElem?_append_left (by have := h.ll; omega)] at h2
    exact h.lk j p t h1 h2
  · rw [List.getElem?_append_right (by omega)] at h1
    rw [List.getElem?_append_right (by have := h.ll; omega)] at h2
    have ht := List.eq_of_mem_replicate (List.mem_of_getElem? h2)
    subst ht
    refine ⟨by omega, ?_⟩
    rw [show 1 - (1 - k) = k by omega]
    exact hp p (List.mem_of_getElem? h1)
theorem Pl.recv {S : Nat → List Msg} {a d : Nat → Nat} {held : Nat → List (Int × Msg)} {L : List Pk} {tos : List Nat} {i : Nat} (h : Pl S a d held L tos i) {t : Nat} (ht : t < 2) {a' d' : Nat} {held' : List (Int × Msg)} (h1 : a' ≤ max (a t) (d (1 - t))) (h2 : d t ≤ d') (h3 : d' ≤ (S (1 - t)).length) (h4 : HeldOk (S (1 - t)) held') (h5 : held'.length ≤ (held t).length + 1) :
    Pl S (upd a t a') (upd d t d') (upd held t held') L tos (i + 1) := by
  have hd : ∀ j, d j ≤ upd d t d' j := fun j => by
    by_cases e : j = t
    · subst e; rw [upd_same]; exact h2
    · rw [upd_ne _ _ e]; exact Nat.le_refl _
  refine ⟨fun j hj => ?_, fun j hj => ?_, fun j hj => ?_, fun j hj => ?_, fun j hj => by have := h.sl j hj; omega, h.sb, by have := h.ll; omega, fun j p u g1 g2 => ?_⟩
  · have := h.ad j hj
    have h6 := hd (1 - j)
    by_cases e : j = t
    · subst e; rw [upd_same]; omega
    · rw [upd_ne _ _ e]; omega
  · by_cases e : 1 - j = t
    · subst e; rw [upd_same]; rw [show 1 - (1 - j) = j by omega] at h3; exact h3
    · rw [upd_ne _ _ e]; exact h.ds j hj
  · by_cases e : j = t
    · subst e; rw [upd_same]; exact h4
    · rw [upd_ne _ _ e]; exact h.he j hj
  · have := h.hl j hj
    by_cases e : j = t
    · subst e; rw [upd_same]; omega
    · rw [upd_ne _ _ e]; omega
  · obtain ⟨q1, q2⟩ := h.lk j p u g1 g2
    refine ⟨q1, ?_⟩
    have := q2.more [] (hd (1 - u))
    simpa using this
end Ord
end Go.Proofs.Ytellmncndfmbbaa
