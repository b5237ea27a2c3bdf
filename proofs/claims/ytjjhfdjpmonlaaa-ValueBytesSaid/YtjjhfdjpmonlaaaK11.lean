/- Lists of values joined; what is selected and stored is small. -/
import Derived.Test.YtjjhfdjpmonlaaaK10
namespace Go.Proofs.Ytjjhfdjpmonlaaa
open Go Go.W

theorem el_rv : ElemOk Try.prog ty_sl_enthymemeref06_Value ty_enthymemeref06_Value (.agg #[.int .i64 0, .int .i64 0, .int .i64 0, .int .u64 0, .string (ByteArray.mk #[]), .slice none 0 0]) 6 72 := ⟨by kernel_rfl, by kernel_rfl, rfl, by decide, by decide⟩
theorem wI (x : Int) : I64 (IntKind.wrap .i64 x) := by rw [IntKind.wrap_i64]; omega
theorem valsC_app (l m : List (Val × Sl)) : valsC (l ++ m) = valsC l ++ valsC m := by simp [valsC]
theorem valsC_one (l : List (Val × Sl)) : ∀ u ∈ valsC l, u.oneCell' = true := fun u hu => by
  obtain ⟨e, _, h⟩ := List.mem_flatMap.1 hu
  simp only [valC, List.mem_cons, List.not_mem_nil, or_false] at h
  rcases h with rfl | rfl | rfl | rfl | rfl | rfl <;> rfl
theorem rdc {w : World} {s : Sl} {vs : List Value} (h : Rd w s vs) {i : Nat} {v : Value} (hi : vs[i]? = some v) {p : Addr} (hp : s.a = some p) : w.cell? (p.add (i * 1)) = some v := by
  have hk := h.get hi rfl (K := fun q => ∃ q', s.a = some q' ∧ w.cell? (q'.add (i * 1)) = some v) (fun q hq hc => ⟨q, hq, hc⟩)
  rw [hp] at hk
  obtain ⟨q, hq, d⟩ := hk
  cases hq
  exact d
theorem cmpS_self : ∀ l : List UInt8, cmpS l l = 0
  | [] => rfl
  | a :: l => by unfold cmpS; rw [(cmpI_zero _ _).2 rfl]; simp [cmpS_self l]
theorem cmpE_self (e : Ent) : cmpE e e = 0 := by
  unfold cmpE
  simp [(cmpI_zero _ _).2, cmpS_self, orI]
theorem cmpM_self : ∀ l : List Ent, cmpM l l = 0
  | [] => rfl
  | a :: l => by unfold cmpM; rw [cmpE_self]; simp [cmpM_self l]
theorem cmpV_self (v : Val) : cmpV v v = 0 := by
  unfold cmpV headC
  simp [(cmpI_zero _ _).2, cmpS_self, orI, cmpM_self]
theorem selV_m (a : Val) (x : Nat) : (selV a x).m = [] := by unfold selV; split <;> rfl
theorem selM_in (m : List Ent) (x : Nat) : selM m x = (0, []) ∨ ∃ e ∈ m, selM m x = (e.u, e.s) := by
  unfold selM
  cases h : m.find? (fun e => e.i == x) with
  | none => exact .inl rfl
  | some e => exact .inr ⟨e, List.mem_of_find?_eq_some h, rfl⟩
theorem selV_sm {a : Val} (h : Sm a) (x : Nat) : Sm (selV a x) := by
  refine ⟨?_, by rw [selV_m]; simp, by rw [selV_m]; simp⟩
  unfold selV
  split
  · simp [noVal]
  · rcases selM_in a.m x with h' | ⟨e, he, h'⟩
    · rw [h']; simp
    · rw [h']; exact h.e e he
theorem putM_in (e : Ent) : ∀ (m : List Ent) (x : Ent), x ∈ putM e m → x = e ∨ x ∈ m
  | [], x, h => by
    unfold putM at h
    split at h
    · exact .inl (by simpa using h)
    · cases h
  | a :: l, x, h => by
    unfold putM at h
    split at h
    · rcases List.mem_cons.1 h with rfl | h
      · exact .inr (by simp)
      · exact (putM_in e l x h).imp id fun h => by simp [h]
    · rcases List.mem_append.1 h with h | h
      · split at h
        · exact .inl (by simpa using h)
        · cases h
      · split at h
        · exact .inr (by simp [h])
        · exact .inr h
theorem stoV_sm {a v : Val} (h : Sm a) (h1 : a.m.length ≤ 1000) (hv : Sm v) (x : Nat) : Sm (stoV a x v) := by
  unfold stoV
  split
  · exact ⟨by simp [noVal], by simp [noVal], by simp [noVal]⟩
  · refine ⟨by simp, ?_, fun e he => ?_⟩
    · have := putM_len ⟨x, v.u, v.s⟩ a.m
      show (putM _ _).length ≤ _
      omega
    · rcases putM_in _ _ e he with rfl | he
      · exact hv.s
      · exact h.e e he
theorem sto_len (a v : Val) (x : Nat) : (stoV a x v).m.length ≤ a.m.length + 1 := by
  unfold stoV
  split
  · simp [noVal]
  · exact putM_len _ _
theorem elem_ok {s : Srt} (h : validS s = true) : validS (elemS s) = true := by
  obtain ⟨k, n, x⟩ := s
  have e : elemS ⟨k, n, x⟩ = ⟨if k = 2 then 0 else 1, n, 0⟩ := rfl
  rw [e]
  unfold validS at h ⊢
  by_cases hk : k = 2
  · simp [hk] at h ⊢
    omega
  · simp [hk] at h ⊢
    omega
end Go.Proofs.Ytjjhfdjpmonlaaa
