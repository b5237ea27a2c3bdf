/- Package regex: byteAt: the contract. -/
import Derived.Test.YtknlbofiicflgaaGreatR12
import Derived.Laws.StandIn
import Derived.Lib.Bytealg
namespace Go.Proofs.YtknlbofiicflgaaGreat
open Go Go.W
set_option maxRecDepth 100000

theorem s_indexByteString (s : ByteArray) (c : UInt8) (w : World) : Sem.run Tryz.prog (callFunc n_internal_bytealg_IndexByteString #[.string s, .int .u8 (c.toNat : Int)]) w = .ok (.value (.int .i64 (Go.Lib.indexByte (bl s) c))) w := by
  have h := run_callFunc_indexByte (P := Tryz.prog) (f := n_internal_bytealg_IndexByteString) (fn := (Tryz.prog.funcs[n_internal_bytealg_IndexByteString]?).getD default) (by kernel_rfl) (by kernel_rfl) (by kernel_rfl) (by kernel_rfl) (by kernel_rfl) #[.string s, .int .u8 (c.toNat : Int)] w
  rw [h, Go.Lib.run_indexByteString]
  show Result.ok _ w = _
  congr 4
  simp
theorem s_indexByte (s : ByteArray) (c : UInt8) (w : World) : Calls Tryz.prog n_strings_IndexByte #[.string s, .int .u8 (c.toNat : Int)] w fun r w' => r = .returned (.int .i64 (Go.Lib.indexByte (bl s) c)) ∧ Fr0 w w' := by
  refine strings_IndexByte.ok _ _ w _ ?_
  refine (show Calls Tryz.prog n_internal_stringslite_IndexByte #[.string s, .int .u8 (c.toNat : Int)] w fun r w' => r = .returned (.int .i64 (Go.Lib.indexByte (bl s) c)) ∧ w = w' from ?_).mono ?_
  · exact internal_stringslite_IndexByte.ok _ _ w _ ⟨_, w, s_indexByteString s c w, rfl, rfl⟩
  · rintro r w1 ⟨rfl, rfl⟩
    exact ⟨_, rfl, rfl, Fr.refl _ _⟩
def smallB (c : UInt8) : Bool := decide (97 ≤ c.toNat) && decide (c.toNat ≤ 122)
def plainB (c : UInt8) : Bool := decide (32 ≤ c.toNat) && (decide (c.toNat ≤ 126) && (!decide (c = 39) && !decide (c = 92)))
theorem c_small (c : UInt8) (w : World) : Calls Tryz.prog n_regex_small #[.int .u8 (c.toNat : Int)] w fun r w' => r = .returned (.bool (smallB c)) ∧ Fr0 w w' := by
  refine regex_small.ok _ w _ (sel_dec (fun h => ⟨?_, Fr.refl _ _⟩) (fun h => ⟨?_, Fr.refl _ _⟩))
  · unfold smallB
    rw [decide_eq_true (show 97 ≤ c.toNat by omega), Bool.true_and]
    rw [show decide ((c.toNat : Int) ≤ 122) = decide (c.toNat ≤ 122) from decide_eq_decide.2 (by omega)]
  · unfold smallB
    rw [decide_eq_false (show ¬ 97 ≤ c.toNat by omega), Bool.false_and]
theorem u8_beq (c : UInt8) (n : Nat) (hn : n < 256) : (((c.toNat : Nat) : Int) == (n : Int)) = decide (c = UInt8.ofNat n) := by
  have e : c.toNat = n ↔ c = UInt8.ofNat n := by
    rw [← UInt8.toNat_inj, UInt8.toNat_ofNat']
    omega
  rw [Bool.eq_iff_iff, beq_iff_eq, decide_eq_true_iff, ← e]
  omega
theorem c_plain (c : UInt8) (w : World) : Calls Tryz.prog n_regex_plain #[.int .u8 (c.toNat : Int)] w fun r w' => r = .returned (.bool (plainB c)) ∧ Fr0 w w' := by
  have e39 : (((c.toNat : Nat) : Int) != 39) = !decide (c = 39) := by
    have := u8_beq c 39 (by omega)
    show (!(((c.toNat : Nat) : Int) == ((39 : Nat) : Int))) = _
    rw [this]; rfl
  have e92 : (((c.toNat : Nat) : Int) != 92) = !decide (c = 92) := by
    have := u8_beq c 92 (by omega)
    show (!(((c.toNat : Nat) : Int) == ((92 : Nat) : Int))) = _
    rw [this]; rfl
  refine regex_plain.ok _ w _ ?_
  rw [e39, e92]
  unfold plainB
  refine sel_dec (fun h => ?_) (fun h => ⟨?_, Fr.refl _ _⟩)
  · rw [decide_eq_true (show 32 ≤ c.toNat by omega), Bool.true_and]
    refine sel_dec (fun h2 => ?_) (fun h2 => ⟨?_, Fr.refl _ _⟩)
    · rw [decide_eq_true (show c.toNat ≤ 126 by omega), Bool.true_and]
      refine sel_intro (fun h3 => ⟨?_, Fr.refl _ _⟩) (fun h3 => ⟨?_, Fr.refl _ _⟩)
      · rw [h3, Bool.true_and]
      · rw [h3, Bool.false_and]
    · rw [decide_eq_false (show ¬ c.toNat ≤ 126 by omega), Bool.false_and]
  · rw [decide_eq_false (show ¬ 32 ≤ c.toNat by omega), Bool.false_and]
theorem bl_get {s : ByteArray} {l : List UInt8} (h : bl s = l) (i : Nat) : s[i]? = l[i]? := by
  subst h
  by_cases hi : i < s.size
  · rw [getElem?_pos s i hi, List.getElem?_eq_getElem (by rw [bl_len]; exact hi)]; rfl
  · rw [getElem?_neg s i hi, List.getElem?_eq_none (by rw [bl_len]; omega)]
theorem s_at {s : ByteArray} {i : Nat} (h : i < s.size) : s[i]? = some ((bl s).getD i 0) := by
  rw [bl_get (s := s) (l := bl s) rfl i]
  have hl : i < (bl s).length := by rw [bl_len]; exact h
  rw [List.getD_eq_getElem?_getD, List.getElem?_eq_getElem hl]
  rfl
def hexs : List UInt8 := [48, 49, 50, 51, 52, 53, 54, 55, 56, 57, 97, 98, 99, 100, 101, 102]
def hexB (a b : Int) : UInt8 := UInt8.ofNat (IntKind.wrap .u8 (bOr .i64 (IntKind.wrap .i64 (a * 2 ^ 4)) b)).toNat
/-- a byte's text at a place -/
def byteX (l : List UInt8) (i : Nat) : Option (UInt8 × Nat) :=
  if i + 2 < l.length ∧ l.getD i 0 = 39 ∧ plainB (l.getD (i + 1) 0) = true ∧ l.getD (i + 2) 0 = 39 then some (l.getD (i + 1) 0, 3)
  else if i + 3 < l.length ∧ l.getD i 0 = 92 ∧ l.getD (i + 1) 0 = 120 ∧ 0 ≤ Go.Lib.indexByte hexs (l.getD (i + 2) 0) ∧ 0 ≤ Go.Lib.indexByte hexs (l.getD (i + 3) 0) then some (hexB (Go.Lib.indexByte hexs (l.getD (i + 2) 0)) (Go.Lib.indexByte hexs (l.getD (i + 3) 0)), 4)
  else none
def byteV : Option (UInt8 × Nat) → Value
  | none => .tuple #[.int .u8 0, .int .i64 0, .bool false]
  | some (b, n) => .tuple #[.int .u8 (b.toNat : Int), .int .i64 (n : Int), .bool true]
theorem u8_seln {x : UInt8} {n : Nat} {A B : Prop} (hn : n < 256) (h1 : x = UInt8.ofNat n → A) (h2 : x ≠ UInt8.ofNat n → B) : sel (((x.toNat : Nat) : Int) == (n : Int)) A B := u8_sel hn h1 h2
theorem wrap_u8_back (x : Int) : ((UInt8.ofNat (IntKind.wrap .u8 x).toNat).toNat : Int) = IntKind.wrap .u8 x := by
  rw [UInt8.toNat_ofNat', IntKind.wrap_u8]
  omega
theorem c_byteAt (s : ByteArray) (i : Nat) (hi : i ≤ 1000000) (w : World) : Calls Tryz.prog n_regex_byteAt #[.string s, .int .i64 (i : Int)] w fun r w' => r = .returned (byteV (byteX (bl s) i)) ∧ Fr0 w w' := by
  have e1 : IntKind.wrap .i64 ((i : Int) + 1) = ((i + 1 : Nat) : Int) := by rw [IntWalk.i64_in _ (by omega)]; omega
  have e2 : IntKind.wrap .i64 ((i : Int) + 2) = ((i + 2 : Nat) : Int) := by rw [IntWalk.i64_in _ (by omega)]; omega
  have e3 : IntKind.wrap .i64 ((i : Int) + 3) = ((i + 3 : Nat) : Int) := by rw [IntWalk.i64_in _ (by omega)]; omega
  have hl : (bl s).length = s.size := bl_len s
  have hex : ¬ (i + 2 < (bl s).length ∧ (bl s).getD i 0 = 39 ∧ plainB ((bl s).getD (i + 1) 0) = true ∧ (bl s).getD (i + 2) 0 = 39) → ∀ w', Fr0 w w' → regex_byteAt.S0 s i w' (fun r w' => r = .returned (byteV (byteX (bl s) i)) ∧ Fr0 w w') := by
    intro hq w' hf
    have no : ¬ (i + 3 < (bl s).length ∧ (bl s).getD i 0 = 92 ∧ (bl s).getD (i + 1) 0 = 120 ∧ 0 ≤ Go.Lib.indexByte hexs ((bl s).getD (i + 2) 0) ∧ 0 ≤ Go.Lib.indexByte hexs ((bl s).getD (i + 3) 0)) → ∀ w', Fr0 w w' → regex_byteAt.S1 w' (fun r w' => r = .returned (byteV (byteX (bl s) i)) ∧ Fr0 w w') := fun hn w' hf => by
      refine ⟨?_, hf⟩
      unfold byteX
      rw [if_neg hq, if_neg hn]
      rfl
    show sel _ _ _
    rw [e3, e2, e1]
    refine sel_dec (fun h3 => ⟨by omega, _, s_at (i := i) (by omega), u8_seln (n := 92) (by omega) (fun hc => ⟨by omega, _, s_at (i := i + 1) (by omega), u8_seln (n := 120) (by omega) (fun hx => ?_) (fun hx => no (fun h => hx h.2.2.1) w' hf)⟩) (fun hc => no (fun h => hc h.2.1) w' hf)⟩) (fun h3 => no (fun h => by omega) w' hf)
    refine (show LH F0 w w' [] [] from ((LH.start (M := F0) (w := w) [] (by simp)).fr0 hf)).dr fun w1 H1 => ⟨by omega, _, s_at (i := i + 2) (by omega), by omega, _, s_at (i := i + 3) (by omega), H1.call (s_indexByte _ _ _) ?_⟩
    rintro _ w2 rfl H2
    refine ⟨_, rfl, H2.call (s_indexByte _ _ _) ?_⟩
    rintro _ w3 rfl H3
    refine ⟨_, rfl, ?_⟩
    show sel (decide (Go.Lib.indexByte hexs _ ≥ 0)) (sel (decide (Go.Lib.indexByte hexs _ ≥ 0)) _ _) _
    refine sel_dec (fun ha => sel_dec (fun hb => ⟨?_, H3.fr⟩) (fun hb => no (fun h => hb h.2.2.2.2) w3 H3.fr)) (fun ha => no (fun h => ha h.2.2.2.1) w3 H3.fr)
    unfold byteX
    rw [if_neg hq, if_pos ⟨by omega, hc, hx, ha, hb⟩]
    exact congrArg (fun x => Ending.returned (.tuple #[.int .u8 x, .int .i64 4, .bool true])) (wrap_u8_back _).symm
  refine regex_byteAt.ok _ _ w _ ?_
  rw [e2, e1]
  refine sel_dec (fun h2 => ⟨by omega, _, s_at (i := i) (by omega), u8_seln (n := 39) (by omega) (fun hc => ⟨by omega, _, s_at (i := i + 1) (by omega), (c_plain _ w).mono ?_⟩) (fun hc => hex (fun h => hc h.2.1) w (Fr.refl _ _))⟩) (fun h2 => hex (fun h => by omega) w (Fr.refl _ _))
  rintro _ w1 ⟨rfl, f1⟩
  refine ⟨_, rfl, sel_intro (fun hp => ⟨by omega, _, s_at (i := i + 2) (by omega), u8_seln (n := 39) (by omega) (fun hd => ⟨by omega, _, s_at (i := i + 1) (by omega), ?_, f1⟩) (fun hd => hex (fun h => hd h.2.2.2) w1 f1)⟩) (fun hp => hex (fun h => by rw [h.2.2.1] at hp; cases hp) w1 f1)⟩
  unfold byteX
  rw [if_pos ⟨by omega, hc, hp, hd⟩]
  rfl
end Go.Proofs.YtknlbofiicflgaaGreat
