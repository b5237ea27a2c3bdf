/- Package strings, as far as the lexer goes: IndexByte. -/
import Derived.Test.YtemagdpieebjlaaBF
import Derived.Test.YtemagdpieebjlaaVP
import Derived.Laws.StandIn
import Derived.Lib.Bytealg
namespace Go.Proofs.Ytemagdpieebjlaa
open Go Go.W

theorem s_indexByteString (s : ByteArray) (c : UInt8) (w : World) : Sem.run Try.prog (callFunc n_internal_bytealg_IndexByteString #[.string s, .int .u8 (c.toNat : Int)]) w = .ok (.value (.int .i64 (Go.Lib.indexByte (bl s) c))) w := by
  have h := run_callFunc_indexByte (P := Try.prog) (f := n_internal_bytealg_IndexByteString) (fn := (Try.prog.funcs[n_internal_bytealg_IndexByteString]?).getD default) (by kernel_rfl) (by kernel_rfl) (by kernel_rfl) (by kernel_rfl) (by kernel_rfl) #[.string s, .int .u8 (c.toNat : Int)] w
  rw [h, Go.Lib.run_indexByteString]
  show Result.ok _ w = _
  congr 4
  simp
theorem s_indexByte (s : ByteArray) (c : UInt8) (w : World) : Calls Try.prog n_strings_IndexByte #[.string s, .int .u8 (c.toNat : Int)] w fun r w' => r = .returned (.int .i64 (Go.Lib.indexByte (bl s) c)) ∧ w = w' := by
  refine strings_IndexByte.ok _ _ w _ ?_
  refine (show Calls Try.prog n_internal_stringslite_IndexByte #[.string s, .int .u8 (c.toNat : Int)] w fun r w' => r = .returned (.int .i64 (Go.Lib.indexByte (bl s) c)) ∧ w = w' from ?_).mono ?_
  · exact internal_stringslite_IndexByte.ok _ _ w _ ⟨_, w, s_indexByteString s c w, rfl, rfl⟩
  · rintro r w1 ⟨rfl, rfl⟩
    exact ⟨_, rfl, rfl, rfl⟩
theorem indexByte_mem : ∀ (l : List UInt8) (c : UInt8), (0 ≤ Go.Lib.indexByte l c) = (c ∈ l)
  | [], c => by simp [Go.Lib.indexByte]
  | b :: l, c => by
    unfold Go.Lib.indexByte
    have ih := indexByte_mem l c
    by_cases h : b = c
    · subst h; simp
    · rw [if_neg (by simpa using h)]
      have hge := Go.Lib.indexByte_ge l c
      have e : (c ∈ b :: l) = (c ∈ l) := by
        apply propext
        rw [List.mem_cons]
        exact ⟨fun h' => h'.resolve_left fun e => h e.symm, .inr⟩
      rw [e, ← ih]
      split
      · rename_i h1
        have : Go.Lib.indexByte l c = -1 := by simpa using h1
        rw [this]
      · rename_i h1
        have : Go.Lib.indexByte l c ≠ -1 := by simpa using h1
        apply propext
        omega
end Go.Proofs.Ytemagdpieebjlaa
