/- Printed by a program of ours (vcgen.py) from the dump: the conditions of the functions, and that they suffice. -/
import Derived.Test.YtemagdpieebjlaaV
set_option linter.unusedVariables false
set_option maxRecDepth 100000
namespace Go.Proofs.Ytemagdpieebjlaa
open Go
namespace hash_mix
noncomputable def C0 : Code := (Try.f53.body).getD .skip
noncomputable def C1 : Code := W.Code.snd C0
noncomputable def C2 : Code := W.Code.snd C1
abbrev Q0 (R : W.Post) : Exit → Act → World → Prop := (bodyPost Try.prog Try.f53 R)
noncomputable def C3 : Code := W.Code.fst C2
noncomputable def C4 : Code := W.Code.snd C2
/-- hash.go:11 -/
abbrev S2 (m5 : Int) (w : World) (R : W.Post) : Prop :=
  R (.returned (.int .u64 (W.bXor .u64 m5 (Int.fdiv m5 (2 ^ (32)))))) w
def KE_S2 (E : W.Env) (w : World) (R : W.Post) : Prop := W.asInt .u64 (W.Env.get? E 5) fun m5 => S2 m5 w R
theorem KE_S2_ok (R : W.Post) (E : W.Env) (w : World) (h : KE_S2 E w R) : W.WP Try.prog (W.cx 14) C2 (Q0 R) E w := by
  obtain ⟨m5, hq5, h1⟩ := W.asInt_elim h
  exact fun a ha => W.WP.at (n := (W.cx 14)) (E := [(5, .int .u64 m5)]) (W.WP.seq (c := C2) (x := C3) (y := C4) (by kernel_rfl) <| W.WP.reg (c := C3) (fun E w => W.retVC Try.prog Try.f53 E w (fun v => R (.returned v) w)) (by kernel_rfl) (Eq.mp (by kernel_rfl) h1) fun _ _ a hA hK => (W.WP.ret (c := C4) (by kernel_rfl) fun a hA => W.retVC_sound hA hK) a hA) (ha.cons hq5 ha.nil)
noncomputable def C5 : Code := W.Code.fst C1
/-- hash.go:10 -/
abbrev S1 (s0 wv1 : Int) (w : World) (R : W.Post) : Prop :=
  S2 (IntKind.wrap .u64 ((W.bXor .u64 s0 wv1) * 11400714819323198485)) w R
def KE_S1 (E : W.Env) (w : World) (R : W.Post) : Prop := W.asInt .u64 (W.Env.get? E 0) fun s0 => W.asInt .u64 (W.Env.get? E 1) fun wv1 => S1 s0 wv1 w R
theorem KE_S1_ok (R : W.Post) (E : W.Env) (w : World) (h : KE_S1 E w R) : W.WP Try.prog (W.cx 14) C1 (Q0 R) E w := by
  obtain ⟨s0, hq0, h1⟩ := W.asInt_elim h
  obtain ⟨wv1, hq1, h2⟩ := W.asInt_elim h1
  exact fun a ha => W.WP.at (n := (W.cx 14)) (E := [(0, .int .u64 s0), (1, .int .u64 wv1)]) (W.WP.seq (c := C1) (x := C5) (y := C2) (by kernel_rfl) <| W.WP.reg (c := C5) (fun E w => KE_S2 E w R) (by kernel_rfl) (Eq.mp (by kernel_rfl) h2) fun _ _ a hA hK => (KE_S2_ok R _ _ hK) a hA) (ha.cons hq0 (ha.cons hq1 ha.nil))
noncomputable def C6 : Code := W.Code.fst C0
/-- hash.go:9 -/
abbrev S0 (s0 wv1 : Int) (w : World) (R : W.Post) : Prop :=
  S1 s0 wv1 w R
def KE_S0 (E : W.Env) (w : World) (R : W.Post) : Prop := W.asInt .u64 (W.Env.get? E 0) fun s0 => W.asInt .u64 (W.Env.get? E 1) fun wv1 => S0 s0 wv1 w R
theorem KE_S0_ok (R : W.Post) (E : W.Env) (w : World) (h : KE_S0 E w R) : W.WP Try.prog (W.cx 14) C0 (Q0 R) E w := by
  obtain ⟨s0, hq0, h1⟩ := W.asInt_elim h
  obtain ⟨wv1, hq1, h2⟩ := W.asInt_elim h1
  exact fun a ha => W.WP.at (n := (W.cx 14)) (E := [(0, .int .u64 s0), (1, .int .u64 wv1)]) (W.WP.seq (c := C0) (x := C6) (y := C1) (by kernel_rfl) <| W.WP.reg (c := C6) (fun E w => KE_S1 E w R) (by kernel_rfl) (Eq.mp (by kernel_rfl) h2) fun _ _ a hA hK => (KE_S1_ok R _ _ hK) a hA) (ha.cons hq0 (ha.cons hq1 ha.nil))
/-- enthymeme/hash.mix -/
theorem ok (s0 wv1 : Int) (w : World) (R : W.Post) (h : S0 s0 wv1 w R) : Calls Try.prog n_hash_mix #[.int .u64 s0, .int .u64 wv1] w R :=
  W.calls_of_WP' (fn := Try.f53) (c := C0) (args := [.int .u64 s0, .int .u64 wv1]) (by kernel_rfl) (by kernel_rfl) (by kernel_rfl) (KE_S0_ok R _ _ (Eq.mp (by kernel_rfl) h))
end hash_mix
namespace hash_wordsOf
noncomputable def C0 : Code := (Try.f38.body).getD .skip
noncomputable def C1 : Code := W.Code.snd C0
abbrev Q0 (R : W.Post) : Exit → Act → World → Prop := (bodyPost Try.prog Try.f38 R)
noncomputable def C2 : Code := W.Code.fst C1
noncomputable def C3 : Code := W.Code.snd C1
/-- hash.go:16 -/
abbrev S1 (b1 : Addr) (w : World) (R : W.Post) : Prop :=
  R (.returned (.func (.func n_hash_wordsOf_1) #[] #[.pointer (some b1)])) w
def KE_S1 (E : W.Env) (w : World) (R : W.Post) : Prop := W.asRef (W.Env.get? E 1) fun b1 => S1 b1 w R
theorem KE_S1_ok (R : W.Post) (E : W.Env) (w : World) (h : KE_S1 E w R) : W.WP Try.prog (W.cx 4) C1 (Q0 R) E w := by
  obtain ⟨b1, hq1, h1⟩ := W.asRef_elim h
  exact fun a ha => W.WP.at (n := (W.cx 4)) (E := [(1, .pointer (some b1))]) (W.WP.seq (c := C1) (x := C2) (y := C3) (by kernel_rfl) <| W.WP.reg (c := C2) (fun E w => W.retVC Try.prog Try.f38 E w (fun v => R (.returned v) w)) (by kernel_rfl) (Eq.mp (by kernel_rfl) h1) fun _ _ a hA hK => (W.WP.ret (c := C3) (by kernel_rfl) fun a hA => W.retVC_sound hA hK) a hA) (ha.cons hq1 ha.nil)
noncomputable def C4 : Code := W.Code.fst C0
/-- hash.go:15 -/
abbrev S0 (b0 : W.Sl) (w : World) (R : W.Post) : Prop :=
  let w1 := w.alloc (.cells #[b0.v] ty_sl_uint8)
  S1 (Addr.mk w.heap.size 0 none) w1 R
def KE_S0 (E : W.Env) (w : World) (R : W.Post) : Prop := W.asSlice (W.Env.get? E 0) fun b0 => S0 b0 w R
theorem KE_S0_ok (R : W.Post) (E : W.Env) (w : World) (h : KE_S0 E w R) : W.WP Try.prog (W.cx 4) C0 (Q0 R) E w := by
  obtain ⟨b0, hq0, h1⟩ := W.asSlice_elim h
  exact fun a ha => W.WP.at (n := (W.cx 4)) (E := [(0, b0.v)]) (W.WP.seq (c := C0) (x := C4) (y := C1) (by kernel_rfl) <| W.WP.reg (c := C4) (fun E w => KE_S1 E w R) (by kernel_rfl) (Eq.mp (by kernel_rfl) h1) fun _ _ a hA hK => (KE_S1_ok R _ _ hK) a hA) (ha.cons hq0 ha.nil)
/-- enthymeme/hash.wordsOf -/
theorem ok (b0 : W.Sl) (w : World) (R : W.Post) (h : S0 b0 w R) : Calls Try.prog n_hash_wordsOf #[b0.v] w R :=
  W.calls_of_WP' (fn := Try.f38) (c := C0) (args := [b0.v]) (by kernel_rfl) (by kernel_rfl) (by kernel_rfl) (KE_S0_ok R _ _ (Eq.mp (by kernel_rfl) h))
end hash_wordsOf
namespace hash_wordsOf_1
noncomputable def C0 : Code := (Try.f52.body).getD .skip
noncomputable def C1 : Code := W.Code.snd C0
noncomputable def C2 : Code := W.Code.fst C1
noncomputable def C3 : Code := W.Code.fst C2
abbrev Q0 (R : W.Post) : Exit → Act → World → Prop := (bodyPost Try.prog Try.f52 R)
abbrev Q1 (R : W.Post) : Exit → Act → World → Prop := (Exit.inBlock 0 (Q0 R))
/-- the head of the loop, hash.go:17 -/
def L1 (yield0 : Nat) (t1 : Addr) (i3 : Int) (w : World) (R : W.Post) : Prop := W.LP Try.prog (W.cx 40) C3 (Q1 R) [(0, .func (.yield yield0) #[] #[]), (1, .pointer (some t1)), (3, .int .i64 i3)] w
def KE_L1 (E : W.Env) (w : World) (R : W.Post) : Prop := W.asYield (W.Env.get? E 0) fun yield0 => W.asRef (W.Env.get? E 1) fun t1 => W.asInt .i64 (W.Env.get? E 3) fun i3 => L1 yield0 t1 i3 w R
theorem KE_L1_ok (R : W.Post) (E : W.Env) (w : World) (h : KE_L1 E w R) : W.LP Try.prog (W.cx 40) C3 (Q1 R) E w := by
  obtain ⟨yield0, hq0, h1⟩ := W.asYield_elim h
  obtain ⟨t1, hq1, h2⟩ := W.asRef_elim h1
  obtain ⟨i3, hq3, h3⟩ := W.asInt_elim h2
  intro a ha
  exact h3 a (ha.cons hq0 (ha.cons hq1 (ha.cons hq3 ha.nil)))
noncomputable def C4 : Code := W.Code.snd C3
noncomputable def C5 : Code := W.Code.fst C4
noncomputable def C6 : Code := W.Code.fst C5
noncomputable def C7 : Code := W.Code.snd C6
noncomputable def C8 : Code := W.Code.fst C7
noncomputable def C9 : Code := W.Code.snd C8
noncomputable def C10 : Code := W.Code.fst C9
noncomputable def C11 : Code := W.Code.fst C10
noncomputable def C12 : Code := W.Code.snd C4
abbrev Q2 (R : W.Post) : Exit → Act → World → Prop := (Exit.then (W.wpx Try.prog (W.cx 40) C12 (Exit.then (W.LoopWP Try.prog (W.cx 40) C3 (Q1 R)) (Q1 R))) (Exit.then (W.LoopWP Try.prog (W.cx 40) C3 (Q1 R)) (Q1 R)))
noncomputable def C13 : Code := W.Code.snd C7
abbrev Q3 (R : W.Post) : Exit → Act → World → Prop := (Exit.then (W.wpx Try.prog (W.cx 40) C13 (Exit.inBlock 1 (Q2 R))) (Exit.inBlock 1 (Q2 R)))
abbrev Q4 (R : W.Post) : Exit → Act → World → Prop := (Exit.inBlock 2 (Q3 R))
/-- the head of the loop, hash.go:19 -/
def L5 (yield0 : Nat) (t1 : Addr) (i3 wv4 k5 : Int) (w : World) (R : W.Post) : Prop := W.LP Try.prog (W.cx 40) C11 (Q4 R) [(0, .func (.yield yield0) #[] #[]), (1, .pointer (some t1)), (3, .int .i64 i3), (4, .int .u64 wv4), (5, .int .i64 k5)] w
def KE_L5 (E : W.Env) (w : World) (R : W.Post) : Prop := W.asYield (W.Env.get? E 0) fun yield0 => W.asRef (W.Env.get? E 1) fun t1 => W.asInt .i64 (W.Env.get? E 3) fun i3 => W.asInt .u64 (W.Env.get? E 4) fun wv4 => W.asInt .i64 (W.Env.get? E 5) fun k5 => L5 yield0 t1 i3 wv4 k5 w R
theorem KE_L5_ok (R : W.Post) (E : W.Env) (w : World) (h : KE_L5 E w R) : W.LP Try.prog (W.cx 40) C11 (Q4 R) E w := by
  obtain ⟨yield0, hq0, h1⟩ := W.asYield_elim h
  obtain ⟨t1, hq1, h2⟩ := W.asRef_elim h1
  obtain ⟨i3, hq3, h3⟩ := W.asInt_elim h2
  obtain ⟨wv4, hq4, h4⟩ := W.asInt_elim h3
  obtain ⟨k5, hq5, h5⟩ := W.asInt_elim h4
  intro a ha
  exact h5 a (ha.cons hq0 (ha.cons hq1 (ha.cons hq3 (ha.cons hq4 (ha.cons hq5 ha.nil)))))
noncomputable def C14 : Code := W.Code.snd C11
noncomputable def C15 : Code := W.Code.snd C14
abbrev Q5 (R : W.Post) : Exit → Act → World → Prop := (Exit.then (W.LoopWP Try.prog (W.cx 40) C11 (Q4 R)) (Q4 R))
/-- hash.go:19 -/
abbrev S8 (yield0 : Nat) (t1 : Addr) (i3 wv4 k5 : Int) (w : World) (R : W.Post) : Prop :=
  L5 yield0 t1 i3 wv4 (IntKind.wrap .i64 (k5 + 1)) w R
def KE_S8 (E : W.Env) (w : World) (R : W.Post) : Prop := W.asYield (W.Env.get? E 0) fun yield0 => W.asRef (W.Env.get? E 1) fun t1 => W.asInt .i64 (W.Env.get? E 3) fun i3 => W.asInt .u64 (W.Env.get? E 4) fun wv4 => W.asInt .i64 (W.Env.get? E 5) fun k5 => S8 yield0 t1 i3 wv4 k5 w R
theorem KE_S8_ok (R : W.Post) (E : W.Env) (w : World) (h : KE_S8 E w R) : W.WP Try.prog (W.cx 40) C15 (Q5 R) E w := by
  obtain ⟨yield0, hq0, h1⟩ := W.asYield_elim h
  obtain ⟨t1, hq1, h2⟩ := W.asRef_elim h1
  obtain ⟨i3, hq3, h3⟩ := W.asInt_elim h2
  obtain ⟨wv4, hq4, h4⟩ := W.asInt_elim h3
  obtain ⟨k5, hq5, h5⟩ := W.asInt_elim h4
  exact fun a ha => W.WP.at (n := (W.cx 40)) (E := [(0, .func (.yield yield0) #[] #[]), (1, .pointer (some t1)), (3, .int .i64 i3), (4, .int .u64 wv4), (5, .int .i64 k5)]) (W.WP.reg (c := C15) (fun E w => KE_L5 E w R) (by kernel_rfl) (Eq.mp (by kernel_rfl) h5) fun _ _ a hA hK => KE_L5_ok R _ _ hK a hA) (ha.cons hq0 (ha.cons hq1 (ha.cons hq3 (ha.cons hq4 (ha.cons hq5 ha.nil)))))
noncomputable def C16 : Code := W.Code.fst C14
noncomputable def C17 : Code := W.Code.fst C16
abbrev Q6 (R : W.Post) : Exit → Act → World → Prop := (Exit.then (W.wpx Try.prog (W.cx 40) C15 (Exit.then (W.LoopWP Try.prog (W.cx 40) C11 (Q4 R)) (Q4 R))) (Exit.then (W.LoopWP Try.prog (W.cx 40) C11 (Q4 R)) (Q4 R)))
abbrev Q7 (R : W.Post) : Exit → Act → World → Prop := (Exit.inBlock 3 (Q6 R))
/-- hash.go:20 -/
abbrev S7 (yield0 : Nat) (t1 : Addr) (i3 wv4 k5 : Int) (w : World) (R : W.Post) : Prop :=
  ∃ t25 : W.Sl, w.cell? t1 = some (t25.v) ∧ 
  (0 : Int) ≤ (IntKind.wrap .i64 (i3 + k5)) ∧ (IntKind.wrap .i64 (i3 + k5)) < ((t25.n : Nat) : Int) ∧ W.optP t25.a fun t29_p => ∃ t30 : Int, w.cell? (t29_p.add (Int.toNat (IntKind.wrap .i64 (i3 + k5)) * 1)) = some (.int .u8 t30) ∧ 
  ¬ (IntKind.wrap .i64 (8 * k5)) < 0 ∧ S8 yield0 t1 i3 (W.bOr .u64 wv4 (IntKind.wrap .u64 ((IntKind.wrap .u64 t30) * 2 ^ (min (Int.toNat (IntKind.wrap .i64 (8 * k5))) (IntKind.bits .u64))))) k5 w R
def KE_S7 (E : W.Env) (w : World) (R : W.Post) : Prop := W.asYield (W.Env.get? E 0) fun yield0 => W.asRef (W.Env.get? E 1) fun t1 => W.asInt .i64 (W.Env.get? E 3) fun i3 => W.asInt .u64 (W.Env.get? E 4) fun wv4 => W.asInt .i64 (W.Env.get? E 5) fun k5 => S7 yield0 t1 i3 wv4 k5 w R
theorem KE_S7_ok (R : W.Post) (E : W.Env) (w : World) (h : KE_S7 E w R) : W.WP Try.prog (W.cx 40) C17 (Q7 R) E w := by
  obtain ⟨yield0, hq0, h1⟩ := W.asYield_elim h
  obtain ⟨t1, hq1, h2⟩ := W.asRef_elim h1
  obtain ⟨i3, hq3, h3⟩ := W.asInt_elim h2
  obtain ⟨wv4, hq4, h4⟩ := W.asInt_elim h3
  obtain ⟨k5, hq5, h5⟩ := W.asInt_elim h4
  exact fun a ha => W.WP.at (n := (W.cx 40)) (E := [(0, .func (.yield yield0) #[] #[]), (1, .pointer (some t1)), (3, .int .i64 i3), (4, .int .u64 wv4), (5, .int .i64 k5)]) (W.WP.reg (c := C17) (fun E w => KE_S8 E w R) (by kernel_rfl) (Eq.mp (by kernel_rfl) h5) fun _ _ a hA hK => (KE_S8_ok R _ _ hK) a hA) (ha.cons hq0 (ha.cons hq1 (ha.cons hq3 (ha.cons hq4 (ha.cons hq5 ha.nil)))))
abbrev Q8 (R : W.Post) : Exit → Act → World → Prop := (Exit.then (W.LoopWP Try.prog (W.cx 40) C3 (Q1 R)) (Q1 R))
/-- hash.go:17 -/
abbrev S10 (yield0 : Nat) (t1 : Addr) (i3 : Int) (w : World) (R : W.Post) : Prop :=
  L1 yield0 t1 (IntKind.wrap .i64 (i3 + 8)) w R
def KE_S10 (E : W.Env) (w : World) (R : W.Post) : Prop := W.asYield (W.Env.get? E 0) fun yield0 => W.asRef (W.Env.get? E 1) fun t1 => W.asInt .i64 (W.Env.get? E 3) fun i3 => S10 yield0 t1 i3 w R
theorem KE_S10_ok (R : W.Post) (E : W.Env) (w : World) (h : KE_S10 E w R) : W.WP Try.prog (W.cx 40) C12 (Q8 R) E w := by
  obtain ⟨yield0, hq0, h1⟩ := W.asYield_elim h
  obtain ⟨t1, hq1, h2⟩ := W.asRef_elim h1
  obtain ⟨i3, hq3, h3⟩ := W.asInt_elim h2
  exact fun a ha => W.WP.at (n := (W.cx 40)) (E := [(0, .func (.yield yield0) #[] #[]), (1, .pointer (some t1)), (3, .int .i64 i3)]) (W.WP.reg (c := C12) (fun E w => KE_L1 E w R) (by kernel_rfl) (Eq.mp (by kernel_rfl) h3) fun _ _ a hA hK => KE_L1_ok R _ _ hK a hA) (ha.cons hq0 (ha.cons hq1 (ha.cons hq3 ha.nil)))
abbrev Q9 (R : W.Post) : Exit → Act → World → Prop := (Exit.inBlock 1 (Q2 R))
noncomputable def C18 : Code := W.Code.fst C13
noncomputable def C19 : Code := W.Code.snd C13
noncomputable def C20 : Code := W.Code.fst C19
noncomputable def C21 : Code := W.Code.snd C19
/-- hash.go:22 -/
abbrev S9 (yield0 : Nat) (t1 : Addr) (i3 wv4 : Int) (w : World) (R : W.Post) : Prop :=
  W.yieldB Try.prog yield0 #[.int .u64 wv4] w fun (t38 : Bool) w1 => W.sel (!t38) (R (.returned (.tuple #[])) w1) (S10 yield0 t1 i3 w1 R)
def KE_S9 (E : W.Env) (w : World) (R : W.Post) : Prop := W.asYield (W.Env.get? E 0) fun yield0 => W.asRef (W.Env.get? E 1) fun t1 => W.asInt .i64 (W.Env.get? E 3) fun i3 => W.asInt .u64 (W.Env.get? E 4) fun wv4 => S9 yield0 t1 i3 wv4 w R
theorem KE_S9_ok (R : W.Post) (E : W.Env) (w : World) (h : KE_S9 E w R) : W.WP Try.prog (W.cx 40) C13 (Q9 R) E w := by
  obtain ⟨yield0, hq0, h1⟩ := W.asYield_elim h
  obtain ⟨t1, hq1, h2⟩ := W.asRef_elim h1
  obtain ⟨i3, hq3, h3⟩ := W.asInt_elim h2
  obtain ⟨wv4, hq4, h4⟩ := W.asInt_elim h3
  exact fun a ha => W.WP.at (n := (W.cx 40)) (E := [(0, .func (.yield yield0) #[] #[]), (1, .pointer (some t1)), (3, .int .i64 i3), (4, .int .u64 wv4)]) (W.WP.seq (c := C13) (x := C18) (y := C19) (by kernel_rfl) <| W.WP.reg (c := C18) (fun E w => W.condK (W.Env.val E (.tmp 39)) (W.retVC Try.prog Try.f52 E w (fun v => R (.returned v) w)) (KE_S10 E w R)) (by kernel_rfl) (Eq.mp (by kernel_rfl) h4) fun _ _ a hA hK => (W.WP.condK (c := C19) (x := C20) (y := C21) (o := .tmp 39) (by kernel_rfl) (fun hK => (W.WP.ret (c := C20) (by kernel_rfl) fun a hA => W.retVC_sound hA hK)) (fun hK => (W.WP.skip (c := C21) (by kernel_rfl) fun a hA => (KE_S10_ok R _ _ hK) a hA)) hK) a hA) (ha.cons hq0 (ha.cons hq1 (ha.cons hq3 (ha.cons hq4 ha.nil))))
noncomputable def C22 : Code := W.Code.fst C11
abbrev Q10 (R : W.Post) : Exit → Act → World → Prop := (Exit.then (W.wpx Try.prog (W.cx 40) C14 (Exit.then (W.LoopWP Try.prog (W.cx 40) C11 (Q4 R)) (Q4 R))) (Exit.then (W.LoopWP Try.prog (W.cx 40) C11 (Q4 R)) (Q4 R)))
noncomputable def C23 : Code := W.Code.fst C22
noncomputable def C24 : Code := W.Code.snd C22
noncomputable def C25 : Code := W.Code.fst C24
noncomputable def C26 : Code := W.Code.snd C24
/-- hash.go:19 -/
abbrev S6 (yield0 : Nat) (t1 : Addr) (i3 wv4 k5 : Int) (w : World) (R : W.Post) : Prop :=
  W.sel (decide (k5 < 8)) (∃ t18 : W.Sl, w.cell? t1 = some (t18.v) ∧ 
  W.sel (decide ((IntKind.wrap .i64 (i3 + k5)) < ((t18.n : Nat) : Int))) (S7 yield0 t1 i3 wv4 k5 w R) (S9 yield0 t1 i3 wv4 w R)) (S9 yield0 t1 i3 wv4 w R)
def KE_S6 (E : W.Env) (w : World) (R : W.Post) : Prop := W.asYield (W.Env.get? E 0) fun yield0 => W.asRef (W.Env.get? E 1) fun t1 => W.asInt .i64 (W.Env.get? E 3) fun i3 => W.asInt .u64 (W.Env.get? E 4) fun wv4 => W.asInt .i64 (W.Env.get? E 5) fun k5 => S6 yield0 t1 i3 wv4 k5 w R
theorem KE_S6_ok (R : W.Post) (E : W.Env) (w : World) (h : KE_S6 E w R) : W.WP Try.prog (W.cx 40) C22 (Q10 R) E w := by
  obtain ⟨yield0, hq0, h1⟩ := W.asYield_elim h
  obtain ⟨t1, hq1, h2⟩ := W.asRef_elim h1
  obtain ⟨i3, hq3, h3⟩ := W.asInt_elim h2
  obtain ⟨wv4, hq4, h4⟩ := W.asInt_elim h3
  obtain ⟨k5, hq5, h5⟩ := W.asInt_elim h4
  exact fun a ha => W.WP.at (n := (W.cx 40)) (E := [(0, .func (.yield yield0) #[] #[]), (1, .pointer (some t1)), (3, .int .i64 i3), (4, .int .u64 wv4), (5, .int .i64 k5)]) (W.WP.seq (c := C22) (x := C23) (y := C24) (by kernel_rfl) <| W.WP.reg (c := C23) (fun E w => W.condK (W.Env.val E (.tmp 21)) (KE_S7 E w R) (KE_S9 E w R)) (by kernel_rfl) (Eq.mp (by kernel_rfl) h5) fun _ _ a hA hK => (W.WP.condK (c := C24) (x := C25) (y := C26) (o := .tmp 21) (by kernel_rfl) (fun hK => (W.WP.skip (c := C25) (by kernel_rfl) fun a hA => (W.WP.seq (c := C14) (x := C16) (y := C15) (by kernel_rfl) (W.WP.block (c := C16) (x := C17) (id := 3) (by kernel_rfl) (KE_S7_ok R _ _ hK))) a hA)) (fun hK => (W.WP.exit (c := C26) (id := 2) (by kernel_rfl) fun a hA => (KE_S9_ok R _ _ hK) a hA)) hK) a hA) (ha.cons hq0 (ha.cons hq1 (ha.cons hq3 (ha.cons hq4 (ha.cons hq5 ha.nil)))))
theorem L5_step (yield0 : Nat) (t1 : Addr) (i3 wv4 k5 : Int) (w : World) (R : W.Post) (h : S6 yield0 t1 i3 wv4 k5 w R) : L5 yield0 t1 i3 wv4 k5 w R :=
  W.LP.step (n := (W.cx 40)) (c := C11) (E := [(0, .func (.yield yield0) #[] #[]), (1, .pointer (some t1)), (3, .int .i64 i3), (4, .int .u64 wv4), (5, .int .i64 k5)]) (w := w) (W.WP.seq (c := C11) (x := C22) (y := C14) (by kernel_rfl) (KE_S6_ok R _ _ (Eq.mp (by kernel_rfl) h)))
noncomputable def C27 : Code := W.Code.fst C8
/-- hash.go:19 -/
abbrev S4 (yield0 : Nat) (t1 : Addr) (i3 wv4 : Int) (w : World) (R : W.Post) : Prop :=
  L5 yield0 t1 i3 wv4 0 w R
def KE_S4 (E : W.Env) (w : World) (R : W.Post) : Prop := W.asYield (W.Env.get? E 0) fun yield0 => W.asRef (W.Env.get? E 1) fun t1 => W.asInt .i64 (W.Env.get? E 3) fun i3 => W.asInt .u64 (W.Env.get? E 4) fun wv4 => S4 yield0 t1 i3 wv4 w R
theorem KE_S4_ok (R : W.Post) (E : W.Env) (w : World) (h : KE_S4 E w R) : W.WP Try.prog (W.cx 40) C8 (Q3 R) E w := by
  obtain ⟨yield0, hq0, h1⟩ := W.asYield_elim h
  obtain ⟨t1, hq1, h2⟩ := W.asRef_elim h1
  obtain ⟨i3, hq3, h3⟩ := W.asInt_elim h2
  obtain ⟨wv4, hq4, h4⟩ := W.asInt_elim h3
  exact fun a ha => W.WP.at (n := (W.cx 40)) (E := [(0, .func (.yield yield0) #[] #[]), (1, .pointer (some t1)), (3, .int .i64 i3), (4, .int .u64 wv4)]) (W.WP.seq (c := C8) (x := C27) (y := C9) (by kernel_rfl) <| W.WP.reg (c := C27) (fun E w => KE_L5 E w R) (by kernel_rfl) (Eq.mp (by kernel_rfl) h4) fun _ _ a hA hK => (W.WP.block (c := C9) (x := C10) (id := 2) (by kernel_rfl) (W.WP.loop (c := C10) (x := C11) (by kernel_rfl) (KE_L5_ok R _ _ hK))) a hA) (ha.cons hq0 (ha.cons hq1 (ha.cons hq3 (ha.cons hq4 ha.nil))))
noncomputable def C28 : Code := W.Code.fst C6
/-- hash.go:18 -/
abbrev S3 (yield0 : Nat) (t1 : Addr) (i3 : Int) (w : World) (R : W.Post) : Prop :=
  S4 yield0 t1 i3 0 w R
def KE_S3 (E : W.Env) (w : World) (R : W.Post) : Prop := W.asYield (W.Env.get? E 0) fun yield0 => W.asRef (W.Env.get? E 1) fun t1 => W.asInt .i64 (W.Env.get? E 3) fun i3 => S3 yield0 t1 i3 w R
theorem KE_S3_ok (R : W.Post) (E : W.Env) (w : World) (h : KE_S3 E w R) : W.WP Try.prog (W.cx 40) C6 (Q9 R) E w := by
  obtain ⟨yield0, hq0, h1⟩ := W.asYield_elim h
  obtain ⟨t1, hq1, h2⟩ := W.asRef_elim h1
  obtain ⟨i3, hq3, h3⟩ := W.asInt_elim h2
  exact fun a ha => W.WP.at (n := (W.cx 40)) (E := [(0, .func (.yield yield0) #[] #[]), (1, .pointer (some t1)), (3, .int .i64 i3)]) (W.WP.seq (c := C6) (x := C28) (y := C7) (by kernel_rfl) <| W.WP.reg (c := C28) (fun E w => KE_S4 E w R) (by kernel_rfl) (Eq.mp (by kernel_rfl) h3) fun _ _ a hA hK => (W.WP.seq (c := C7) (x := C8) (y := C13) (by kernel_rfl) (KE_S4_ok R _ _ hK)) a hA) (ha.cons hq0 (ha.cons hq1 (ha.cons hq3 ha.nil)))
noncomputable def C29 : Code := W.Code.fst C3
abbrev Q11 (R : W.Post) : Exit → Act → World → Prop := (Exit.then (W.wpx Try.prog (W.cx 40) C4 (Exit.then (W.LoopWP Try.prog (W.cx 40) C3 (Q1 R)) (Q1 R))) (Exit.then (W.LoopWP Try.prog (W.cx 40) C3 (Q1 R)) (Q1 R)))
noncomputable def C30 : Code := W.Code.fst C29
noncomputable def C31 : Code := W.Code.snd C29
noncomputable def C32 : Code := W.Code.fst C31
noncomputable def C33 : Code := W.Code.snd C31
/-- hash.go:17 -/
abbrev S2 (yield0 : Nat) (t1 : Addr) (i3 : Int) (w : World) (R : W.Post) : Prop :=
  ∃ t7 : W.Sl, w.cell? t1 = some (t7.v) ∧ 
  W.sel (decide (i3 < ((t7.n : Nat) : Int))) (S3 yield0 t1 i3 w R) (R (.returned (.tuple #[])) w)
def KE_S2 (E : W.Env) (w : World) (R : W.Post) : Prop := W.asYield (W.Env.get? E 0) fun yield0 => W.asRef (W.Env.get? E 1) fun t1 => W.asInt .i64 (W.Env.get? E 3) fun i3 => S2 yield0 t1 i3 w R
theorem KE_S2_ok (R : W.Post) (E : W.Env) (w : World) (h : KE_S2 E w R) : W.WP Try.prog (W.cx 40) C29 (Q11 R) E w := by
  obtain ⟨yield0, hq0, h1⟩ := W.asYield_elim h
  obtain ⟨t1, hq1, h2⟩ := W.asRef_elim h1
  obtain ⟨i3, hq3, h3⟩ := W.asInt_elim h2
  exact fun a ha => W.WP.at (n := (W.cx 40)) (E := [(0, .func (.yield yield0) #[] #[]), (1, .pointer (some t1)), (3, .int .i64 i3)]) (W.WP.seq (c := C29) (x := C30) (y := C31) (by kernel_rfl) <| W.WP.reg (c := C30) (fun E w => W.condK (W.Env.val E (.tmp 9)) (KE_S3 E w R) (W.retVC Try.prog Try.f52 E w (fun v => R (.returned v) w))) (by kernel_rfl) (Eq.mp (by kernel_rfl) h3) fun _ _ a hA hK => (W.WP.condK (c := C31) (x := C32) (y := C33) (o := .tmp 9) (by kernel_rfl) (fun hK => (W.WP.skip (c := C32) (by kernel_rfl) fun a hA => (W.WP.seq (c := C4) (x := C5) (y := C12) (by kernel_rfl) (W.WP.block (c := C5) (x := C6) (id := 1) (by kernel_rfl) (KE_S3_ok R _ _ hK))) a hA)) (fun hK => (W.WP.exit (c := C33) (id := 0) (by kernel_rfl) fun a hA => W.retVC_sound hA hK)) hK) a hA) (ha.cons hq0 (ha.cons hq1 (ha.cons hq3 ha.nil)))
theorem L1_step (yield0 : Nat) (t1 : Addr) (i3 : Int) (w : World) (R : W.Post) (h : S2 yield0 t1 i3 w R) : L1 yield0 t1 i3 w R :=
  W.LP.step (n := (W.cx 40)) (c := C3) (E := [(0, .func (.yield yield0) #[] #[]), (1, .pointer (some t1)), (3, .int .i64 i3)]) (w := w) (W.WP.seq (c := C3) (x := C29) (y := C4) (by kernel_rfl) (KE_S2_ok R _ _ (Eq.mp (by kernel_rfl) h)))
noncomputable def C34 : Code := W.Code.fst C0
/-- hash.go:17 -/
abbrev S0 (yield0 : Nat) (t1 : Addr) (w : World) (R : W.Post) : Prop :=
  L1 yield0 t1 0 w R
def KE_S0 (E : W.Env) (w : World) (R : W.Post) : Prop := W.asYield (W.Env.get? E 0) fun yield0 => W.asRef (W.Env.get? E 1) fun t1 => S0 yield0 t1 w R
theorem KE_S0_ok (R : W.Post) (E : W.Env) (w : World) (h : KE_S0 E w R) : W.WP Try.prog (W.cx 40) C0 (Q0 R) E w := by
  obtain ⟨yield0, hq0, h1⟩ := W.asYield_elim h
  obtain ⟨t1, hq1, h2⟩ := W.asRef_elim h1
  exact fun a ha => W.WP.at (n := (W.cx 40)) (E := [(0, .func (.yield yield0) #[] #[]), (1, .pointer (some t1))]) (W.WP.seq (c := C0) (x := C34) (y := C1) (by kernel_rfl) <| W.WP.reg (c := C34) (fun E w => KE_L1 E w R) (by kernel_rfl) (Eq.mp (by kernel_rfl) h2) fun _ _ a hA hK => (W.WP.block (c := C1) (x := C2) (id := 0) (by kernel_rfl) (W.WP.loop (c := C2) (x := C3) (by kernel_rfl) (KE_L1_ok R _ _ hK))) a hA) (ha.cons hq0 (ha.cons hq1 ha.nil))
/-- enthymeme/hash.wordsOf$1 -/
theorem ok (yield0 : Nat) (t1 : Addr) (w : World) (R : W.Post) (h : S0 yield0 t1 w R) : Calls Try.prog n_hash_wordsOf_1 #[.func (.yield yield0) #[] #[], .pointer (some t1)] w R :=
  W.calls_of_WP' (fn := Try.f52) (c := C0) (args := [.func (.yield yield0) #[] #[], .pointer (some t1)]) (by kernel_rfl) (by kernel_rfl) (by kernel_rfl) (KE_S0_ok R _ _ (Eq.mp (by kernel_rfl) h))
end hash_wordsOf_1
namespace hash_Sum
noncomputable def C0 : Code := (Try.f39.body).getD .skip
noncomputable def C1 : Code := W.Code.snd C0
noncomputable def C2 : Code := W.Code.snd C1
noncomputable def C3 : Code := W.Code.fst C2
noncomputable def C4 : Code := W.Code.snd C3
noncomputable def C5 : Code := W.Code.fst C4
noncomputable def C6 : Code := W.Code.asn C5
noncomputable def C7 : Code := W.Code.bdy C5
noncomputable def C8 : Code := W.Code.fst C7
abbrev Q0 (l_ : Nat) (rec_ : Loop) (R : W.Post) : Exit → Act → World → Prop := (roundPost Try.prog l_ R)
abbrev Q1 (l_ : Nat) (rec_ : Loop) (R : W.Post) : Exit → Act → World → Prop := (Exit.inBlock 1 (Q0 l_ rec_ R))
/-- hash.go:33 -/
abbrev S5 (l_ : Nat) (o_ : LoopState → Option Code → Obj) (s5 : Addr) (wv6 : Int) (w : World) (R : W.Post) : Prop :=
  ∃ t13 : Int, w.cell? s5 = some (.int .u64 t13) ∧ 
  Calls Try.prog n_hash_mix #[.int .u64 t13, .int .u64 wv6] w fun r_ w1 => ∃ t15 : Int, r_ = .returned (.int .u64 t15) ∧ 
  (w1.cell? s5).isSome = true ∧ w1.frozen? s5 = false ∧ let w2 := w1.setCell s5 (.int .u64 t15)
  w2.heap[l_]? = some (o_ .busy none) ∧ R (.returned (.bool true)) (w2.putObj l_ (o_ .ready none))
def KE_S5 (l_ : Nat) (o_ : LoopState → Option Code → Obj) (E : W.Env) (w : World) (R : W.Post) : Prop := W.asRef (W.Env.get? E 5) fun s5 => W.asInt .u64 (W.Env.get? E 6) fun wv6 => S5 l_ o_ s5 wv6 w R
theorem KE_S5_ok (l_ : Nat) (rec_ : Loop) (R : W.Post) (E : W.Env) (w : World) (h : KE_S5 l_ (W.lo rec_) E w R) : W.WP Try.prog ⟨39, [], some l_⟩ C8 (Q1 l_ rec_ R) E w := by
  obtain ⟨s5, hq5, h1⟩ := W.asRef_elim h
  obtain ⟨wv6, hq6, h2⟩ := W.asInt_elim h1
  exact fun a ha => W.WP.at (n := ⟨39, [], some l_⟩) (E := [(5, .pointer (some s5)), (6, .int .u64 wv6)]) (W.WP.reg (c := C8) (fun E w => w.heap[l_]? = some ((W.lo rec_) .busy none) ∧ R (.returned (.bool true)) (w.putObj l_ ((W.lo rec_) .ready none))) (by kernel_rfl) (Eq.mp (by kernel_rfl) h2) fun _ _ a hA hK => W.round_end (a := a) (hK).1 (hK).2) (ha.cons hq5 (ha.cons hq6 ha.nil))
abbrev Q2 (l_ : Nat) (rec_ : Loop) (R : W.Post) : Exit → Act → World → Prop := (W.QAssign Try.prog 39 l_ rec_ C7 (roundPost Try.prog l_ R))
/-- hash.go:32 -/
abbrev S4 (l_ : Nat) (o_ : LoopState → Option Code → Obj) (s5 : Addr) (t12 : Int) (w : World) (R : W.Post) : Prop :=
  w.heap[l_]? = some (o_ .ready none) ∧ let w1 := w.putObj l_ (o_ .busy none)
  S5 l_ o_ s5 t12 w1 R
def KE_S4 (l_ : Nat) (o_ : LoopState → Option Code → Obj) (E : W.Env) (w : World) (R : W.Post) : Prop := W.asRef (W.Env.get? E 5) fun s5 => W.asInt .u64 (W.Env.get? E 12) fun t12 => S4 l_ o_ s5 t12 w R
theorem KE_S4_ok (l_ : Nat) (rec_ : Loop) (R : W.Post) (E : W.Env) (w : World) (h : KE_S4 l_ (W.lo rec_) E w R) : W.WP Try.prog ⟨39, [], some l_⟩ C6 (Q2 l_ rec_ R) E w := by
  obtain ⟨s5, hq5, h1⟩ := W.asRef_elim h
  obtain ⟨t12, hq12, h2⟩ := W.asInt_elim h1
  exact fun a ha => W.WP.at (n := ⟨39, [], some l_⟩) (E := [(5, .pointer (some s5)), (12, .int .u64 t12)]) (W.WP.reg (c := C6) (fun E w => w.heap[l_]? = some (W.lo rec_ .ready none) ∧ ((fun w => KE_S5 l_ (W.lo rec_) E w R) (w.putObj l_ (W.lo rec_ .busy none)))) (by kernel_rfl) (Eq.mp (by kernel_rfl) h2) fun _ _ a hA hK => ⟨(hK).1, (W.WP.block (c := C7) (x := C8) (id := 1) (by kernel_rfl) (KE_S5_ok l_ rec_ R _ _ (hK).2)) a hA⟩) (ha.cons hq5 (ha.cons hq12 ha.nil))
/-- a round of the loop, hash.go:33 -/
abbrev B_S3 (l_ : Nat) (o_ : LoopState → Option Code → Obj) (label0 : ByteArray) (l1 : W.Sl) (s5 t11_c0 : Addr) (x12 : Int) (w : World) (R : W.Post) : Prop :=
  S4 l_ o_ s5 x12 w R
theorem Y_S3 (l_ : Nat) (rec_ : Loop) (label0 : ByteArray) (l1 : W.Sl) (s5 t11_c0 : Addr) (x12 : Int) (w : World) (R : W.Post) (h : B_S3 l_ (W.lo rec_) label0 l1 s5 t11_c0 x12 w R) : W.WP Try.prog ⟨39, [], some l_⟩ C6 (W.QAssign Try.prog 39 l_ rec_ C7 (roundPost Try.prog l_ R)) (W.putL [(0, .string label0), (1, l1.v), (5, .pointer (some s5)), (11, .func (.func n_hash_wordsOf_1) #[] #[.pointer (some t11_c0)])] [12] [.int .u64 x12]) w :=
  (KE_S4_ok l_ rec_ R _ _ (Eq.mp (by kernel_rfl) h))
noncomputable def C9 : Code := W.Code.snd C2
noncomputable def C10 : Code := W.Code.snd C9
noncomputable def C11 : Code := W.Code.snd C10
noncomputable def C12 : Code := W.Code.fst C11
noncomputable def C13 : Code := W.Code.snd C12
noncomputable def C14 : Code := W.Code.fst C13
noncomputable def C15 : Code := W.Code.fst C14
noncomputable def C16 : Code := W.Code.snd C11
abbrev Q3 (R : W.Post) : Exit → Act → World → Prop := (Exit.then (W.wpx Try.prog (W.cx 39) C16 (bodyPostM Fence.wide 0 Try.prog Try.f39 R)) (bodyPostM Fence.wide 0 Try.prog Try.f39 R))
abbrev Q4 (R : W.Post) : Exit → Act → World → Prop := (Exit.inBlock 2 (Q3 R))
/-- the head of the loop, hash.go:37 -/
def L9 (D_ : Nat) (s5 : Addr) (t26 : W.Sl) (t27 t28 : Int) (w : World) (R : W.Post) : Prop := W.LP Try.prog (W.marked 39 D_) C15 (Q4 R) [(5, .pointer (some s5)), (26, t26.v), (27, .int .i64 t27), (28, .int .i64 t28)] w
def KE_L9 (D_ : Nat) (E : W.Env) (w : World) (R : W.Post) : Prop := W.asRef (W.Env.get? E 5) fun s5 => W.asSlice (W.Env.get? E 26) fun t26 => W.asInt .i64 (W.Env.get? E 27) fun t27 => W.asInt .i64 (W.Env.get? E 28) fun t28 => L9 D_ s5 t26 t27 t28 w R
theorem KE_L9_ok (D_ : Nat) (R : W.Post) (E : W.Env) (w : World) (h : KE_L9 D_ E w R) : W.LP Try.prog (W.marked 39 D_) C15 (Q4 R) E w := by
  obtain ⟨s5, hq5, h1⟩ := W.asRef_elim h
  obtain ⟨t26, hq26, h2⟩ := W.asSlice_elim h1
  obtain ⟨t27, hq27, h3⟩ := W.asInt_elim h2
  obtain ⟨t28, hq28, h4⟩ := W.asInt_elim h3
  intro a ha
  exact h4 a (ha.cons hq5 (ha.cons hq26 (ha.cons hq27 (ha.cons hq28 ha.nil))))
noncomputable def C17 : Code := W.Code.snd C15
noncomputable def C18 : Code := W.Code.snd C17
noncomputable def C19 : Code := W.Code.snd C18
abbrev Q5 (R : W.Post) : Exit → Act → World → Prop := (Exit.then (W.LoopWP Try.prog (W.cx 39) C15 (Q4 R)) (Q4 R))
/-- hash.go:37 -/
abbrev S13 (D_ : Nat) (s5 : Addr) (t26 : W.Sl) (t27 t28 : Int) (w : World) (R : W.Post) : Prop :=
  L9 D_ s5 t26 t27 (IntKind.wrap .i64 (t28 + 1)) w R
def KE_S13 (D_ : Nat) (E : W.Env) (w : World) (R : W.Post) : Prop := W.asRef (W.Env.get? E 5) fun s5 => W.asSlice (W.Env.get? E 26) fun t26 => W.asInt .i64 (W.Env.get? E 27) fun t27 => W.asInt .i64 (W.Env.get? E 28) fun t28 => S13 D_ s5 t26 t27 t28 w R
theorem KE_S13_ok (D_ : Nat) (R : W.Post) (E : W.Env) (w : World) (h : KE_S13 D_ E w R) : W.WP Try.prog (W.marked 39 D_) C19 (Q5 R) E w := by
  obtain ⟨s5, hq5, h1⟩ := W.asRef_elim h
  obtain ⟨t26, hq26, h2⟩ := W.asSlice_elim h1
  obtain ⟨t27, hq27, h3⟩ := W.asInt_elim h2
  obtain ⟨t28, hq28, h4⟩ := W.asInt_elim h3
  exact fun a ha => W.WP.at (n := (W.marked 39 D_)) (E := [(5, .pointer (some s5)), (26, t26.v), (27, .int .i64 t27), (28, .int .i64 t28)]) (W.WP.reg (c := C19) (fun E w => KE_L9 D_ E w R) (by kernel_rfl) (Eq.mp (by kernel_rfl) h4) fun _ _ a hA hK => KE_L9_ok D_ R _ _ hK a hA) (ha.cons hq5 (ha.cons hq26 (ha.cons hq27 (ha.cons hq28 ha.nil))))
noncomputable def C20 : Code := W.Code.fst C18
noncomputable def C21 : Code := W.Code.fst C20
noncomputable def C22 : Code := W.Code.snd C21
abbrev Q6 (R : W.Post) : Exit → Act → World → Prop := (Exit.then (W.wpx Try.prog (W.cx 39) C19 (Exit.then (W.LoopWP Try.prog (W.cx 39) C15 (Q4 R)) (Q4 R))) (Exit.then (W.LoopWP Try.prog (W.cx 39) C15 (Q4 R)) (Q4 R)))
abbrev Q7 (R : W.Post) : Exit → Act → World → Prop := (Exit.inBlock 3 (Q6 R))
/-- hash.go:38 -/
abbrev S12 (D_ : Nat) (s5 : Addr) (n8 : Int) (t26 : W.Sl) (t27 t28 : Int) (w : World) (R : W.Post) : Prop :=
  ∃ t32 : Int, w.cell? s5 = some (.int .u64 t32) ∧ 
  Calls Try.prog n_hash_mix #[.int .u64 t32, .int .u64 (IntKind.wrap .u64 n8)] w fun r_ w1 => ∃ t35 : Int, r_ = .returned (.int .u64 t35) ∧ 
  (w1.cell? s5).isSome = true ∧ w1.frozen? s5 = false ∧ let w2 := w1.setCell s5 (.int .u64 t35)
  S13 D_ s5 t26 t27 t28 w2 R
def KE_S12 (D_ : Nat) (E : W.Env) (w : World) (R : W.Post) : Prop := W.asRef (W.Env.get? E 5) fun s5 => W.asInt .i64 (W.Env.get? E 8) fun n8 => W.asSlice (W.Env.get? E 26) fun t26 => W.asInt .i64 (W.Env.get? E 27) fun t27 => W.asInt .i64 (W.Env.get? E 28) fun t28 => S12 D_ s5 n8 t26 t27 t28 w R
theorem KE_S12_ok (D_ : Nat) (R : W.Post) (E : W.Env) (w : World) (h : KE_S12 D_ E w R) : W.WP Try.prog (W.marked 39 D_) C22 (Q7 R) E w := by
  obtain ⟨s5, hq5, h1⟩ := W.asRef_elim h
  obtain ⟨n8, hq8, h2⟩ := W.asInt_elim h1
  obtain ⟨t26, hq26, h3⟩ := W.asSlice_elim h2
  obtain ⟨t27, hq27, h4⟩ := W.asInt_elim h3
  obtain ⟨t28, hq28, h5⟩ := W.asInt_elim h4
  exact fun a ha => W.WP.at (n := (W.marked 39 D_)) (E := [(5, .pointer (some s5)), (8, .int .i64 n8), (26, t26.v), (27, .int .i64 t27), (28, .int .i64 t28)]) (W.WP.reg (c := C22) (fun E w => KE_S13 D_ E w R) (by kernel_rfl) (Eq.mp (by kernel_rfl) h5) fun _ _ a hA hK => (KE_S13_ok D_ R _ _ hK) a hA) (ha.cons hq5 (ha.cons hq8 (ha.cons hq26 (ha.cons hq27 (ha.cons hq28 ha.nil)))))
noncomputable def C23 : Code := W.Code.fst C21
/-- hash.go:37 -/
abbrev S11 (D_ : Nat) (s5 : Addr) (t26 : W.Sl) (t27 t28 : Int) (w : World) (R : W.Post) : Prop :=
  (0 : Int) ≤ t28 ∧ t28 < ((t26.n : Nat) : Int) ∧ W.optP t26.a fun t30_p => ∃ t31 : Int, w.cell? (t30_p.add (Int.toNat t28 * 1)) = some (.int .i64 t31) ∧ 
  S12 D_ s5 t31 t26 t27 t28 w R
def KE_S11 (D_ : Nat) (E : W.Env) (w : World) (R : W.Post) : Prop := W.asRef (W.Env.get? E 5) fun s5 => W.asSlice (W.Env.get? E 26) fun t26 => W.asInt .i64 (W.Env.get? E 27) fun t27 => W.asInt .i64 (W.Env.get? E 28) fun t28 => S11 D_ s5 t26 t27 t28 w R
theorem KE_S11_ok (D_ : Nat) (R : W.Post) (E : W.Env) (w : World) (h : KE_S11 D_ E w R) : W.WP Try.prog (W.marked 39 D_) C21 (Q7 R) E w := by
  obtain ⟨s5, hq5, h1⟩ := W.asRef_elim h
  obtain ⟨t26, hq26, h2⟩ := W.asSlice_elim h1
  obtain ⟨t27, hq27, h3⟩ := W.asInt_elim h2
  obtain ⟨t28, hq28, h4⟩ := W.asInt_elim h3
  exact fun a ha => W.WP.at (n := (W.marked 39 D_)) (E := [(5, .pointer (some s5)), (26, t26.v), (27, .int .i64 t27), (28, .int .i64 t28)]) (W.WP.seq (c := C21) (x := C23) (y := C22) (by kernel_rfl) <| W.WP.reg (c := C23) (fun E w => KE_S12 D_ E w R) (by kernel_rfl) (Eq.mp (by kernel_rfl) h4) fun _ _ a hA hK => (KE_S12_ok D_ R _ _ hK) a hA) (ha.cons hq5 (ha.cons hq26 (ha.cons hq27 (ha.cons hq28 ha.nil))))
abbrev Q8 (R : W.Post) : Exit → Act → World → Prop := (bodyPostM Fence.wide 0 Try.prog Try.f39 R)
noncomputable def C24 : Code := W.Code.fst C16
noncomputable def C25 : Code := W.Code.snd C16
/-- hash.go:40 -/
abbrev S14 (D_ : Nat) (s5 : Addr) (w : World) (R : W.Post) : Prop :=
  ∃ t37 : Int, w.cell? s5 = some (.int .u64 t37) ∧ 
  Calls Try.prog n_hash_mix #[.int .u64 t37, .int .u64 0] w fun r_ w1 => ∃ t38 : Int, r_ = .returned (.int .u64 t38) ∧ 
  w1.heap[D_]? = some (.deferred (some [])) ∧ let w2 := w1.putObj D_ (.deferred none)
  R (.returned (.int .u64 t38)) w2
def KE_S14 (D_ : Nat) (E : W.Env) (w : World) (R : W.Post) : Prop := W.asRef (W.Env.get? E 5) fun s5 => S14 D_ s5 w R
theorem KE_S14_ok (D_ : Nat) (R : W.Post) (E : W.Env) (w : World) (h : KE_S14 D_ E w R) : W.WP Try.prog (W.marked 39 D_) C16 (Q8 R) E w := by
  obtain ⟨s5, hq5, h1⟩ := W.asRef_elim h
  exact fun a ha => W.WP.at (n := (W.marked 39 D_)) (E := [(5, .pointer (some s5))]) (W.WP.seq (c := C16) (x := C24) (y := C25) (by kernel_rfl) <| W.WP.reg (c := C24) (fun E w => W.retVCm Try.prog Try.f39 E w D_ R) (by kernel_rfl) (Eq.mp (by kernel_rfl) h1) fun _ _ a hA hK => (W.WP.ret (c := C25) (by kernel_rfl) fun a hA => W.retVCm_sound hA hK) a hA) (ha.cons hq5 ha.nil)
noncomputable def C26 : Code := W.Code.fst C15
noncomputable def C27 : Code := W.Code.fst C17
noncomputable def C28 : Code := W.Code.fst C27
noncomputable def C29 : Code := W.Code.snd C27
/-- hash.go:37 -/
abbrev S10 (D_ : Nat) (s5 : Addr) (t26 : W.Sl) (t27 t28 : Int) (w : World) (R : W.Post) : Prop :=
  W.sel (decide (t28 < t27)) (S11 D_ s5 t26 t27 t28 w R) (S14 D_ s5 w R)
def KE_S10 (D_ : Nat) (E : W.Env) (w : World) (R : W.Post) : Prop := W.asRef (W.Env.get? E 5) fun s5 => W.asSlice (W.Env.get? E 26) fun t26 => W.asInt .i64 (W.Env.get? E 27) fun t27 => W.asInt .i64 (W.Env.get? E 28) fun t28 => S10 D_ s5 t26 t27 t28 w R
theorem KE_S10_ok (D_ : Nat) (R : W.Post) (E : W.Env) (w : World) (h : KE_S10 D_ E w R) : W.WP Try.prog (W.marked 39 D_) C15 (Q5 R) E w := by
  obtain ⟨s5, hq5, h1⟩ := W.asRef_elim h
  obtain ⟨t26, hq26, h2⟩ := W.asSlice_elim h1
  obtain ⟨t27, hq27, h3⟩ := W.asInt_elim h2
  obtain ⟨t28, hq28, h4⟩ := W.asInt_elim h3
  exact fun a ha => W.WP.at (n := (W.marked 39 D_)) (E := [(5, .pointer (some s5)), (26, t26.v), (27, .int .i64 t27), (28, .int .i64 t28)]) (W.WP.seq (c := C15) (x := C26) (y := C17) (by kernel_rfl) <| W.WP.reg (c := C26) (fun E w => W.condK (W.Env.val E (.tmp 29)) (KE_S11 D_ E w R) (KE_S14 D_ E w R)) (by kernel_rfl) (Eq.mp (by kernel_rfl) h4) fun _ _ a hA hK => (W.WP.seq (c := C17) (x := C27) (y := C18) (by kernel_rfl) (W.WP.condK (c := C27) (x := C28) (y := C29) (o := .tmp 29) (by kernel_rfl) (fun hK => (W.WP.skip (c := C28) (by kernel_rfl) fun a hA => (W.WP.seq (c := C18) (x := C20) (y := C19) (by kernel_rfl) (W.WP.block (c := C20) (x := C21) (id := 3) (by kernel_rfl) (KE_S11_ok D_ R _ _ hK))) a hA)) (fun hK => (W.WP.exit (c := C29) (id := 2) (by kernel_rfl) fun a hA => (KE_S14_ok D_ R _ _ hK) a hA)) hK)) a hA) (ha.cons hq5 (ha.cons hq26 (ha.cons hq27 (ha.cons hq28 ha.nil))))
theorem L9_step (D_ : Nat) (s5 : Addr) (t26 : W.Sl) (t27 t28 : Int) (w : World) (R : W.Post) (h : S10 D_ s5 t26 t27 t28 w R) : L9 D_ s5 t26 t27 t28 w R :=
  W.LP.step (n := (W.marked 39 D_)) (c := C15) (E := [(5, .pointer (some s5)), (26, t26.v), (27, .int .i64 t27), (28, .int .i64 t28)]) (w := w) (KE_S10_ok D_ R _ _ (Eq.mp (by kernel_rfl) h))
noncomputable def C30 : Code := W.Code.fst C12
/-- hash.go:37 -/
abbrev S8 (D_ : Nat) (l1 : W.Sl) (s5 : Addr) (w : World) (R : W.Post) : Prop :=
  L9 D_ s5 l1 ((l1.n : Nat) : Int) 0 w R
def KE_S8 (D_ : Nat) (E : W.Env) (w : World) (R : W.Post) : Prop := W.asSlice (W.Env.get? E 1) fun l1 => W.asRef (W.Env.get? E 5) fun s5 => S8 D_ l1 s5 w R
theorem KE_S8_ok (D_ : Nat) (R : W.Post) (E : W.Env) (w : World) (h : KE_S8 D_ E w R) : W.WP Try.prog (W.marked 39 D_) C12 (Q3 R) E w := by
  obtain ⟨l1, hq1, h1⟩ := W.asSlice_elim h
  obtain ⟨s5, hq5, h2⟩ := W.asRef_elim h1
  exact fun a ha => W.WP.at (n := (W.marked 39 D_)) (E := [(1, l1.v), (5, .pointer (some s5))]) (W.WP.seq (c := C12) (x := C30) (y := C13) (by kernel_rfl) <| W.WP.reg (c := C30) (fun E w => KE_L9 D_ E w R) (by kernel_rfl) (Eq.mp (by kernel_rfl) h2) fun _ _ a hA hK => (W.WP.block (c := C13) (x := C14) (id := 2) (by kernel_rfl) (W.WP.loop (c := C14) (x := C15) (by kernel_rfl) (KE_L9_ok D_ R _ _ hK))) a hA) (ha.cons hq1 (ha.cons hq5 ha.nil))
noncomputable def C31 : Code := W.Code.fst C10
/-- hash.go:36 -/
abbrev S7 (D_ : Nat) (l1 : W.Sl) (s5 : Addr) (w : World) (R : W.Post) : Prop :=
  ∃ t21 : Int, w.cell? s5 = some (.int .u64 t21) ∧ 
  Calls Try.prog n_hash_mix #[.int .u64 t21, .int .u64 (IntKind.wrap .u64 ((l1.n : Nat) : Int))] w fun r_ w1 => ∃ t25 : Int, r_ = .returned (.int .u64 t25) ∧ 
  (w1.cell? s5).isSome = true ∧ w1.frozen? s5 = false ∧ let w2 := w1.setCell s5 (.int .u64 t25)
  S8 D_ l1 s5 w2 R
def KE_S7 (D_ : Nat) (E : W.Env) (w : World) (R : W.Post) : Prop := W.asSlice (W.Env.get? E 1) fun l1 => W.asRef (W.Env.get? E 5) fun s5 => S7 D_ l1 s5 w R
theorem KE_S7_ok (D_ : Nat) (R : W.Post) (E : W.Env) (w : World) (h : KE_S7 D_ E w R) : W.WP Try.prog (W.marked 39 D_) C10 (Q8 R) E w := by
  obtain ⟨l1, hq1, h1⟩ := W.asSlice_elim h
  obtain ⟨s5, hq5, h2⟩ := W.asRef_elim h1
  exact fun a ha => W.WP.at (n := (W.marked 39 D_)) (E := [(1, l1.v), (5, .pointer (some s5))]) (W.WP.seq (c := C10) (x := C31) (y := C11) (by kernel_rfl) <| W.WP.reg (c := C31) (fun E w => KE_S8 D_ E w R) (by kernel_rfl) (Eq.mp (by kernel_rfl) h2) fun _ _ a hA hK => (W.WP.seq (c := C11) (x := C12) (y := C16) (by kernel_rfl) (KE_S8_ok D_ R _ _ hK)) a hA) (ha.cons hq1 (ha.cons hq5 ha.nil))
noncomputable def C32 : Code := W.Code.fst C9
/-- hash.go:35 -/
abbrev S6 (D_ : Nat) (label0 : ByteArray) (l1 : W.Sl) (s5 : Addr) (w : World) (R : W.Post) : Prop :=
  ∃ t16 : Int, w.cell? s5 = some (.int .u64 t16) ∧ 
  Calls Try.prog n_hash_mix #[.int .u64 t16, .int .u64 (IntKind.wrap .u64 ((label0.size : Nat) : Int))] w fun r_ w1 => ∃ t20 : Int, r_ = .returned (.int .u64 t20) ∧ 
  (w1.cell? s5).isSome = true ∧ w1.frozen? s5 = false ∧ let w2 := w1.setCell s5 (.int .u64 t20)
  S7 D_ l1 s5 w2 R
def KE_S6 (D_ : Nat) (E : W.Env) (w : World) (R : W.Post) : Prop := W.asStr (W.Env.get? E 0) fun label0 => W.asSlice (W.Env.get? E 1) fun l1 => W.asRef (W.Env.get? E 5) fun s5 => S6 D_ label0 l1 s5 w R
theorem KE_S6_ok (D_ : Nat) (R : W.Post) (E : W.Env) (w : World) (h : KE_S6 D_ E w R) : W.WP Try.prog (W.marked 39 D_) C9 (Q8 R) E w := by
  obtain ⟨label0, hq0, h1⟩ := W.asStr_elim h
  obtain ⟨l1, hq1, h2⟩ := W.asSlice_elim h1
  obtain ⟨s5, hq5, h3⟩ := W.asRef_elim h2
  exact fun a ha => W.WP.at (n := (W.marked 39 D_)) (E := [(0, .string label0), (1, l1.v), (5, .pointer (some s5))]) (W.WP.seq (c := C9) (x := C32) (y := C10) (by kernel_rfl) <| W.WP.reg (c := C32) (fun E w => KE_S7 D_ E w R) (by kernel_rfl) (Eq.mp (by kernel_rfl) h3) fun _ _ a hA hK => (KE_S7_ok D_ R _ _ hK) a hA) (ha.cons hq0 (ha.cons hq1 (ha.cons hq5 ha.nil)))
/-- rangeFunc: a loop over a function -/
abbrev S3 (label0 : ByteArray) (l1 : W.Sl) (s5 t11_c0 : Addr) (w : World) (R : W.Post) : Prop :=
  ∀ o_ : LoopState → Option Code → Obj, (∀ (x12 : Int) (w_ : World) (K_ : Bool → World → Prop), w_.heap[w.heap.size + 1]? = some (o_ .ready none) → B_S3 (w.heap.size + 1) o_ label0 l1 s5 t11_c0 x12 w_ (fun r_ w1 => ∃ b_ : Bool, r_ = .returned (.bool b_) ∧ K_ b_ w1) → W.yieldB Try.prog (w.heap.size + 1) #[.int .u64 x12] w_ K_) →
  Calls Try.prog n_hash_wordsOf_1 #[.func (.yield (w.heap.size + 1)) #[] #[], .pointer (some t11_c0)] ((w.alloc (.deferred (some []))).alloc (o_ .ready none)) fun r_ w2 => (∃ v_, r_ = .returned v_) ∧ W.RangeEnd w2 (w.heap.size + 1) o_ (fun w3 => S6 w.heap.size label0 l1 s5 w3 R) (fun id_ w3 => False) (fun w3 => False)
abbrev Q9 (R : W.Post) : Exit → Act → World → Prop := (Exit.then (W.wpx Try.prog (W.cx 39) C9 (bodyPostM Fence.wide 0 Try.prog Try.f39 R)) (bodyPostM Fence.wide 0 Try.prog Try.f39 R))
abbrev Q10 (R : W.Post) : Exit → Act → World → Prop := (Exit.inBlock 0 (Q9 R))
def KE_S3 (E : W.Env) (w : World) (R : W.Post) : Prop := W.asStr (W.Env.get? E 0) fun label0 => W.asSlice (W.Env.get? E 1) fun l1 => W.asRef (W.Env.get? E 5) fun s5 => W.asFunc n_hash_wordsOf_1 (W.Env.get? E 11) fun t11_lf0 t11_lc0 => W.asNil t11_lf0 <| W.asCons t11_lc0 fun t11_vc0 t11_lc1 => W.asRef (some t11_vc0) fun t11_c0 => W.asNil t11_lc1 <| S3 label0 l1 s5 t11_c0 w R
theorem KE_S3_ok (R : W.Post) (E : W.Env) (w : World) (h : KE_S3 E w R) : W.WP Try.prog (W.cx 39) C5 (Q10 R) E w := by
  obtain ⟨label0, hq0, h1⟩ := W.asStr_elim h
  obtain ⟨l1, hq1, h2⟩ := W.asSlice_elim h1
  obtain ⟨s5, hq5, h3⟩ := W.asRef_elim h2
  obtain ⟨t11_lf0, t11_lc0, hq11, h4⟩ := W.asFunc_elim h3
  obtain ⟨rfl, h5⟩ := W.asNil_elim h4
  obtain ⟨t11_vc0, t11_lc1, rfl, h6⟩ := W.asCons_elim h5
  obtain ⟨t11_c0, ex, h7⟩ := W.asRef_elim h6
  obtain rfl := Option.some.inj ex
  obtain ⟨rfl, h8⟩ := W.asNil_elim h7
  exact fun a ha => W.WP.at (n := (W.cx 39)) (E := [(0, .string label0), (1, l1.v), (5, .pointer (some s5)), (11, .func (.func n_hash_wordsOf_1) #[] #[.pointer (some t11_c0)])]) (W.WP.range (m := 39) (c := C5) (g := .tmp 11) (ps := #[12]) (assign := C6) (body := C7) (gf := n_hash_wordsOf_1) (lb := #[.pointer (some t11_c0)]) (fun w3 => S6 w.heap.size label0 l1 s5 w3 R) (fun id_ w3 => False) (fun w3 => False) (by kernel_rfl) rfl (by kernel_rfl)
    (fun w3 hK a hA => (KE_S6_ok w.heap.size R _ _ (Eq.mp (by kernel_rfl) hK)) a hA)
    (fun _ _ hK => hK.elim)
    (fun _ hK => hK.elim)
    (fun rec_ hr_ => h8 (W.lo rec_) (fun x12 w_ K_ hl_ hb_ => W.yield_of (args := [.int .u64 x12]) hr_ hl_ rfl (by kernel_rfl) (fun _ _ h => h) (Y_S3 _ rec_ label0 l1 s5 t11_c0 x12 w_ _ hb_)))) (ha.cons hq0 (ha.cons hq1 (ha.cons hq5 (ha.cons hq11 ha.nil))))
noncomputable def C33 : Code := W.Code.fst C3
/-- hash.go:32 -/
abbrev S2 (label0 : ByteArray) (l1 : W.Sl) (s5 : Addr) (w : World) (R : W.Post) : Prop :=
  ∃ (t10 : W.Sl) (w1 : World), Sem.run Try.prog (Go.convert ty_string ty_sl_uint8 (.string label0)) w = .ok (t10.v) w1 ∧ Calls Try.prog n_hash_wordsOf #[t10.v] w1 fun r_ w2 => ∃ t11 : Value, r_ = .returned (t11) ∧ 
  W.asFunc n_hash_wordsOf_1 (some t11) fun t11f_lf0 t11f_lc0 => W.asNil t11f_lf0 <| W.asCons t11f_lc0 fun t11f_vc0 t11f_lc1 => W.asRef (some t11f_vc0) fun t11f_c0 => W.asNil t11f_lc1 <| S3 label0 l1 s5 t11f_c0 w2 R
def KE_S2 (E : W.Env) (w : World) (R : W.Post) : Prop := W.asStr (W.Env.get? E 0) fun label0 => W.asSlice (W.Env.get? E 1) fun l1 => W.asRef (W.Env.get? E 5) fun s5 => S2 label0 l1 s5 w R
theorem KE_S2_ok (R : W.Post) (E : W.Env) (w : World) (h : KE_S2 E w R) : W.WP Try.prog (W.cx 39) C3 (Q9 R) E w := by
  obtain ⟨label0, hq0, h1⟩ := W.asStr_elim h
  obtain ⟨l1, hq1, h2⟩ := W.asSlice_elim h1
  obtain ⟨s5, hq5, h3⟩ := W.asRef_elim h2
  exact fun a ha => W.WP.at (n := (W.cx 39)) (E := [(0, .string label0), (1, l1.v), (5, .pointer (some s5))]) (W.WP.seq (c := C3) (x := C33) (y := C4) (by kernel_rfl) <| W.WP.reg (c := C33) (fun E w => KE_S3 E w R) (by kernel_rfl) (Eq.mp (by kernel_rfl) h3) fun _ _ a hA hK => (W.WP.block (c := C4) (x := C5) (id := 0) (by kernel_rfl) (KE_S3_ok R _ _ hK)) a hA) (ha.cons hq0 (ha.cons hq1 (ha.cons hq5 ha.nil)))
noncomputable def C34 : Code := W.Code.fst C1
/-- hash.go:31 -/
abbrev S1 (label0 : ByteArray) (l1 : W.Sl) (w : World) (R : W.Post) : Prop :=
  let w1 := w.alloc (.cells #[.int .u64 0] ty_uint64)
  (w1.cell? (Addr.mk w.heap.size 0 none)).isSome = true ∧ w1.frozen? (Addr.mk w.heap.size 0 none) = false ∧ let w2 := w1.setCell (Addr.mk w.heap.size 0 none) (.int .u64 0)
  S2 label0 l1 (Addr.mk w.heap.size 0 none) w2 R
def KE_S1 (E : W.Env) (w : World) (R : W.Post) : Prop := W.asStr (W.Env.get? E 0) fun label0 => W.asSlice (W.Env.get? E 1) fun l1 => S1 label0 l1 w R
theorem KE_S1_ok (R : W.Post) (E : W.Env) (w : World) (h : KE_S1 E w R) : W.WP Try.prog (W.cx 39) C1 (Q8 R) E w := by
  obtain ⟨label0, hq0, h1⟩ := W.asStr_elim h
  obtain ⟨l1, hq1, h2⟩ := W.asSlice_elim h1
  exact fun a ha => W.WP.at (n := (W.cx 39)) (E := [(0, .string label0), (1, l1.v)]) (W.WP.seq (c := C1) (x := C34) (y := C2) (by kernel_rfl) <| W.WP.reg (c := C34) (fun E w => KE_S2 E w R) (by kernel_rfl) (Eq.mp (by kernel_rfl) h2) fun _ _ a hA hK => (W.WP.seq (c := C2) (x := C3) (y := C9) (by kernel_rfl) (KE_S2_ok R _ _ hK)) a hA) (ha.cons hq0 (ha.cons hq1 ha.nil))
noncomputable def C35 : Code := W.Code.fst C0
/-- hash.go:30 -/
abbrev S0 (label0 : ByteArray) (l1 : W.Sl) (w : World) (R : W.Post) : Prop :=
  S1 label0 l1 w R
def KE_S0 (E : W.Env) (w : World) (R : W.Post) : Prop := W.asStr (W.Env.get? E 0) fun label0 => W.asSlice (W.Env.get? E 1) fun l1 => S0 label0 l1 w R
theorem KE_S0_ok (R : W.Post) (E : W.Env) (w : World) (h : KE_S0 E w R) : W.WP Try.prog (W.cx 39) C0 (Q8 R) E w := by
  obtain ⟨label0, hq0, h1⟩ := W.asStr_elim h
  obtain ⟨l1, hq1, h2⟩ := W.asSlice_elim h1
  exact fun a ha => W.WP.at (n := (W.cx 39)) (E := [(0, .string label0), (1, l1.v)]) (W.WP.seq (c := C0) (x := C35) (y := C1) (by kernel_rfl) <| W.WP.reg (c := C35) (fun E w => KE_S1 E w R) (by kernel_rfl) (Eq.mp (by kernel_rfl) h2) fun _ _ a hA hK => (KE_S1_ok R _ _ hK) a hA) (ha.cons hq0 (ha.cons hq1 ha.nil))
/-- enthymeme/hash.Sum -/
theorem ok (label0 : ByteArray) (l1 : W.Sl) (w : World) (R : W.Post) (h : S0 label0 l1 w R) : Calls Try.prog n_hash_Sum #[.string label0, l1.v] w R :=
  W.calls_of_WPM (fn := Try.f39) (c := C0) (args := [.string label0, l1.v]) (by kernel_rfl) (by kernel_rfl) (by kernel_rfl) (KE_S0_ok R _ _ (Eq.mp (by kernel_rfl) h))
end hash_Sum
namespace hash_Bytes
noncomputable def C0 : Code := (Try.f23.body).getD .skip
noncomputable def C1 : Code := W.Code.snd C0
noncomputable def C2 : Code := W.Code.snd C1
noncomputable def C3 : Code := W.Code.fst C2
noncomputable def C4 : Code := W.Code.snd C3
noncomputable def C5 : Code := W.Code.fst C4
noncomputable def C6 : Code := W.Code.asn C5
noncomputable def C7 : Code := W.Code.bdy C5
noncomputable def C8 : Code := W.Code.fst C7
abbrev Q0 (l_ : Nat) (rec_ : Loop) (R : W.Post) : Exit → Act → World → Prop := (roundPost Try.prog l_ R)
abbrev Q1 (l_ : Nat) (rec_ : Loop) (R : W.Post) : Exit → Act → World → Prop := (Exit.inBlock 1 (Q0 l_ rec_ R))
/-- hash.go:47 -/
abbrev S5 (l_ : Nat) (o_ : LoopState → Option Code → Obj) (l5 : Addr) (wv6 : Int) (w : World) (R : W.Post) : Prop :=
  ∃ t15 : W.Sl, w.cell? l5 = some (t15.v) ∧ 
  let w1 := w.alloc (.cells #[.int .i64 (IntKind.wrap .i64 wv6)] ty_int)
  ∃ (t19 : W.Sl) (w2 : World), Sem.run Try.prog (Builtin.append_ #[ty_sl_int, ty_sl_int] ty_sl_int #[t15.v, .slice (some (Addr.mk w.heap.size 0 none)) 1 1]) w1 = .ok (t19.v) w2 ∧ (w2.cell? l5).isSome = true ∧ w2.frozen? l5 = false ∧ let w3 := w2.setCell l5 (t19.v)
  w3.heap[l_]? = some (o_ .busy none) ∧ R (.returned (.bool true)) (w3.putObj l_ (o_ .ready none))
def KE_S5 (l_ : Nat) (o_ : LoopState → Option Code → Obj) (E : W.Env) (w : World) (R : W.Post) : Prop := W.asRef (W.Env.get? E 5) fun l5 => W.asInt .u64 (W.Env.get? E 6) fun wv6 => S5 l_ o_ l5 wv6 w R
theorem KE_S5_ok (l_ : Nat) (rec_ : Loop) (R : W.Post) (E : W.Env) (w : World) (h : KE_S5 l_ (W.lo rec_) E w R) : W.WP Try.prog ⟨27, [], some l_⟩ C8 (Q1 l_ rec_ R) E w := by
  obtain ⟨l5, hq5, h1⟩ := W.asRef_elim h
  obtain ⟨wv6, hq6, h2⟩ := W.asInt_elim h1
  exact fun a ha => W.WP.at (n := ⟨27, [], some l_⟩) (E := [(5, .pointer (some l5)), (6, .int .u64 wv6)]) (W.WP.reg (c := C8) (fun E w => w.heap[l_]? = some ((W.lo rec_) .busy none) ∧ R (.returned (.bool true)) (w.putObj l_ ((W.lo rec_) .ready none))) (by kernel_rfl) (Eq.mp (by kernel_rfl) h2) fun _ _ a hA hK => W.round_end (a := a) (hK).1 (hK).2) (ha.cons hq5 (ha.cons hq6 ha.nil))
abbrev Q2 (l_ : Nat) (rec_ : Loop) (R : W.Post) : Exit → Act → World → Prop := (W.QAssign Try.prog 27 l_ rec_ C7 (roundPost Try.prog l_ R))
/-- hash.go:46 -/
abbrev S4 (l_ : Nat) (o_ : LoopState → Option Code → Obj) (l5 : Addr) (t14 : Int) (w : World) (R : W.Post) : Prop :=
  w.heap[l_]? = some (o_ .ready none) ∧ let w1 := w.putObj l_ (o_ .busy none)
  S5 l_ o_ l5 t14 w1 R
def KE_S4 (l_ : Nat) (o_ : LoopState → Option Code → Obj) (E : W.Env) (w : World) (R : W.Post) : Prop := W.asRef (W.Env.get? E 5) fun l5 => W.asInt .u64 (W.Env.get? E 14) fun t14 => S4 l_ o_ l5 t14 w R
theorem KE_S4_ok (l_ : Nat) (rec_ : Loop) (R : W.Post) (E : W.Env) (w : World) (h : KE_S4 l_ (W.lo rec_) E w R) : W.WP Try.prog ⟨27, [], some l_⟩ C6 (Q2 l_ rec_ R) E w := by
  obtain ⟨l5, hq5, h1⟩ := W.asRef_elim h
  obtain ⟨t14, hq14, h2⟩ := W.asInt_elim h1
  exact fun a ha => W.WP.at (n := ⟨27, [], some l_⟩) (E := [(5, .pointer (some l5)), (14, .int .u64 t14)]) (W.WP.reg (c := C6) (fun E w => w.heap[l_]? = some (W.lo rec_ .ready none) ∧ ((fun w => KE_S5 l_ (W.lo rec_) E w R) (w.putObj l_ (W.lo rec_ .busy none)))) (by kernel_rfl) (Eq.mp (by kernel_rfl) h2) fun _ _ a hA hK => ⟨(hK).1, (W.WP.block (c := C7) (x := C8) (id := 1) (by kernel_rfl) (KE_S5_ok l_ rec_ R _ _ (hK).2)) a hA⟩) (ha.cons hq5 (ha.cons hq14 ha.nil))
/-- a round of the loop, hash.go:47 -/
abbrev B_S3 (l_ : Nat) (o_ : LoopState → Option Code → Obj) (label0 : ByteArray) (b1 : W.Sl) (l5 t13_c0 : Addr) (x14 : Int) (w : World) (R : W.Post) : Prop :=
  S4 l_ o_ l5 x14 w R
theorem Y_S3 (l_ : Nat) (rec_ : Loop) (label0 : ByteArray) (b1 : W.Sl) (l5 t13_c0 : Addr) (x14 : Int) (w : World) (R : W.Post) (h : B_S3 l_ (W.lo rec_) label0 b1 l5 t13_c0 x14 w R) : W.WP Try.prog ⟨27, [], some l_⟩ C6 (W.QAssign Try.prog 27 l_ rec_ C7 (roundPost Try.prog l_ R)) (W.putL [(0, .string label0), (1, b1.v), (5, .pointer (some l5)), (13, .func (.func n_hash_wordsOf_1) #[] #[.pointer (some t13_c0)])] [14] [.int .u64 x14]) w :=
  (KE_S4_ok l_ rec_ R _ _ (Eq.mp (by kernel_rfl) h))
noncomputable def C9 : Code := W.Code.snd C2
abbrev Q3 (R : W.Post) : Exit → Act → World → Prop := (bodyPostM Fence.wide 0 Try.prog Try.f23 R)
noncomputable def C10 : Code := W.Code.fst C9
noncomputable def C11 : Code := W.Code.snd C9
/-- hash.go:49 -/
abbrev S6 (D_ : Nat) (label0 : ByteArray) (b1 : W.Sl) (l5 : Addr) (w : World) (R : W.Post) : Prop :=
  ∃ t21 : W.Sl, w.cell? l5 = some (t21.v) ∧ 
  let w1 := w.alloc (.cells #[.int .i64 ((b1.n : Nat) : Int)] ty_int)
  ∃ (t25 : W.Sl) (w2 : World), Sem.run Try.prog (Builtin.append_ #[ty_sl_int, ty_sl_int] ty_sl_int #[t21.v, .slice (some (Addr.mk w.heap.size 0 none)) 1 1]) w1 = .ok (t25.v) w2 ∧ Calls Try.prog n_hash_Sum #[.string label0, t25.v] w2 fun r_ w3 => ∃ t26 : Int, r_ = .returned (.int .u64 t26) ∧ 
  w3.heap[D_]? = some (.deferred (some [])) ∧ let w4 := w3.putObj D_ (.deferred none)
  R (.returned (.int .u64 t26)) w4
def KE_S6 (D_ : Nat) (E : W.Env) (w : World) (R : W.Post) : Prop := W.asStr (W.Env.get? E 0) fun label0 => W.asSlice (W.Env.get? E 1) fun b1 => W.asRef (W.Env.get? E 5) fun l5 => S6 D_ label0 b1 l5 w R
theorem KE_S6_ok (D_ : Nat) (R : W.Post) (E : W.Env) (w : World) (h : KE_S6 D_ E w R) : W.WP Try.prog (W.marked 27 D_) C9 (Q3 R) E w := by
  obtain ⟨label0, hq0, h1⟩ := W.asStr_elim h
  obtain ⟨b1, hq1, h2⟩ := W.asSlice_elim h1
  obtain ⟨l5, hq5, h3⟩ := W.asRef_elim h2
  exact fun a ha => W.WP.at (n := (W.marked 27 D_)) (E := [(0, .string label0), (1, b1.v), (5, .pointer (some l5))]) (W.WP.seq (c := C9) (x := C10) (y := C11) (by kernel_rfl) <| W.WP.reg (c := C10) (fun E w => W.retVCm Try.prog Try.f23 E w D_ R) (by kernel_rfl) (Eq.mp (by kernel_rfl) h3) fun _ _ a hA hK => (W.WP.ret (c := C11) (by kernel_rfl) fun a hA => W.retVCm_sound hA hK) a hA) (ha.cons hq0 (ha.cons hq1 (ha.cons hq5 ha.nil)))
/-- rangeFunc: a loop over a function -/
abbrev S3 (label0 : ByteArray) (b1 : W.Sl) (l5 t13_c0 : Addr) (w : World) (R : W.Post) : Prop :=
  ∀ o_ : LoopState → Option Code → Obj, (∀ (x14 : Int) (w_ : World) (K_ : Bool → World → Prop), w_.heap[w.heap.size + 1]? = some (o_ .ready none) → B_S3 (w.heap.size + 1) o_ label0 b1 l5 t13_c0 x14 w_ (fun r_ w1 => ∃ b_ : Bool, r_ = .returned (.bool b_) ∧ K_ b_ w1) → W.yieldB Try.prog (w.heap.size + 1) #[.int .u64 x14] w_ K_) →
  Calls Try.prog n_hash_wordsOf_1 #[.func (.yield (w.heap.size + 1)) #[] #[], .pointer (some t13_c0)] ((w.alloc (.deferred (some []))).alloc (o_ .ready none)) fun r_ w2 => (∃ v_, r_ = .returned v_) ∧ W.RangeEnd w2 (w.heap.size + 1) o_ (fun w3 => S6 w.heap.size label0 b1 l5 w3 R) (fun id_ w3 => False) (fun w3 => False)
abbrev Q4 (R : W.Post) : Exit → Act → World → Prop := (Exit.then (W.wpx Try.prog (W.cx 27) C9 (bodyPostM Fence.wide 0 Try.prog Try.f23 R)) (bodyPostM Fence.wide 0 Try.prog Try.f23 R))
abbrev Q5 (R : W.Post) : Exit → Act → World → Prop := (Exit.inBlock 0 (Q4 R))
def KE_S3 (E : W.Env) (w : World) (R : W.Post) : Prop := W.asStr (W.Env.get? E 0) fun label0 => W.asSlice (W.Env.get? E 1) fun b1 => W.asRef (W.Env.get? E 5) fun l5 => W.asFunc n_hash_wordsOf_1 (W.Env.get? E 13) fun t13_lf0 t13_lc0 => W.asNil t13_lf0 <| W.asCons t13_lc0 fun t13_vc0 t13_lc1 => W.asRef (some t13_vc0) fun t13_c0 => W.asNil t13_lc1 <| S3 label0 b1 l5 t13_c0 w R
theorem KE_S3_ok (R : W.Post) (E : W.Env) (w : World) (h : KE_S3 E w R) : W.WP Try.prog (W.cx 27) C5 (Q5 R) E w := by
  obtain ⟨label0, hq0, h1⟩ := W.asStr_elim h
  obtain ⟨b1, hq1, h2⟩ := W.asSlice_elim h1
  obtain ⟨l5, hq5, h3⟩ := W.asRef_elim h2
  obtain ⟨t13_lf0, t13_lc0, hq13, h4⟩ := W.asFunc_elim h3
  obtain ⟨rfl, h5⟩ := W.asNil_elim h4
  obtain ⟨t13_vc0, t13_lc1, rfl, h6⟩ := W.asCons_elim h5
  obtain ⟨t13_c0, ex, h7⟩ := W.asRef_elim h6
  obtain rfl := Option.some.inj ex
  obtain ⟨rfl, h8⟩ := W.asNil_elim h7
  exact fun a ha => W.WP.at (n := (W.cx 27)) (E := [(0, .string label0), (1, b1.v), (5, .pointer (some l5)), (13, .func (.func n_hash_wordsOf_1) #[] #[.pointer (some t13_c0)])]) (W.WP.range (m := 27) (c := C5) (g := .tmp 13) (ps := #[14]) (assign := C6) (body := C7) (gf := n_hash_wordsOf_1) (lb := #[.pointer (some t13_c0)]) (fun w3 => S6 w.heap.size label0 b1 l5 w3 R) (fun id_ w3 => False) (fun w3 => False) (by kernel_rfl) rfl (by kernel_rfl)
    (fun w3 hK a hA => (KE_S6_ok w.heap.size R _ _ (Eq.mp (by kernel_rfl) hK)) a hA)
    (fun _ _ hK => hK.elim)
    (fun _ hK => hK.elim)
    (fun rec_ hr_ => h8 (W.lo rec_) (fun x14 w_ K_ hl_ hb_ => W.yield_of (args := [.int .u64 x14]) hr_ hl_ rfl (by kernel_rfl) (fun _ _ h => h) (Y_S3 _ rec_ label0 b1 l5 t13_c0 x14 w_ _ hb_)))) (ha.cons hq0 (ha.cons hq1 (ha.cons hq5 (ha.cons hq13 ha.nil))))
noncomputable def C12 : Code := W.Code.fst C3
/-- hash.go:46 -/
abbrev S2 (label0 : ByteArray) (b1 : W.Sl) (l5 : Addr) (w : World) (R : W.Post) : Prop :=
  Calls Try.prog n_hash_wordsOf #[b1.v] w fun r_ w1 => ∃ t13 : Value, r_ = .returned (t13) ∧ 
  W.asFunc n_hash_wordsOf_1 (some t13) fun t13f_lf0 t13f_lc0 => W.asNil t13f_lf0 <| W.asCons t13f_lc0 fun t13f_vc0 t13f_lc1 => W.asRef (some t13f_vc0) fun t13f_c0 => W.asNil t13f_lc1 <| S3 label0 b1 l5 t13f_c0 w1 R
def KE_S2 (E : W.Env) (w : World) (R : W.Post) : Prop := W.asStr (W.Env.get? E 0) fun label0 => W.asSlice (W.Env.get? E 1) fun b1 => W.asRef (W.Env.get? E 5) fun l5 => S2 label0 b1 l5 w R
theorem KE_S2_ok (R : W.Post) (E : W.Env) (w : World) (h : KE_S2 E w R) : W.WP Try.prog (W.cx 27) C3 (Q4 R) E w := by
  obtain ⟨label0, hq0, h1⟩ := W.asStr_elim h
  obtain ⟨b1, hq1, h2⟩ := W.asSlice_elim h1
  obtain ⟨l5, hq5, h3⟩ := W.asRef_elim h2
  exact fun a ha => W.WP.at (n := (W.cx 27)) (E := [(0, .string label0), (1, b1.v), (5, .pointer (some l5))]) (W.WP.seq (c := C3) (x := C12) (y := C4) (by kernel_rfl) <| W.WP.reg (c := C12) (fun E w => KE_S3 E w R) (by kernel_rfl) (Eq.mp (by kernel_rfl) h3) fun _ _ a hA hK => (W.WP.block (c := C4) (x := C5) (id := 0) (by kernel_rfl) (KE_S3_ok R _ _ hK)) a hA) (ha.cons hq0 (ha.cons hq1 (ha.cons hq5 ha.nil)))
noncomputable def C13 : Code := W.Code.fst C1
/-- hash.go:45 -/
abbrev S1 (label0 : ByteArray) (b1 : W.Sl) (w : World) (R : W.Post) : Prop :=
  ∃ (t11 : W.Sl) (w1 : World), Sem.run Try.prog (Instr.makeSlice ty_sl_int (.int .i64 0) (.int .i64 (IntKind.wrap .i64 ((IntKind.wrap .i64 (Int.tdiv ((b1.n : Nat) : Int) 8)) + 2)))) w = .ok (t11.v) w1 ∧ let w2 := w1.alloc (.cells #[.slice none 0 0] ty_sl_int)
  (w2.cell? (Addr.mk w1.heap.size 0 none)).isSome = true ∧ w2.frozen? (Addr.mk w1.heap.size 0 none) = false ∧ let w3 := w2.setCell (Addr.mk w1.heap.size 0 none) (t11.v)
  S2 label0 b1 (Addr.mk w1.heap.size 0 none) w3 R
def KE_S1 (E : W.Env) (w : World) (R : W.Post) : Prop := W.asStr (W.Env.get? E 0) fun label0 => W.asSlice (W.Env.get? E 1) fun b1 => S1 label0 b1 w R
theorem KE_S1_ok (R : W.Post) (E : W.Env) (w : World) (h : KE_S1 E w R) : W.WP Try.prog (W.cx 27) C1 (Q3 R) E w := by
  obtain ⟨label0, hq0, h1⟩ := W.asStr_elim h
  obtain ⟨b1, hq1, h2⟩ := W.asSlice_elim h1
  exact fun a ha => W.WP.at (n := (W.cx 27)) (E := [(0, .string label0), (1, b1.v)]) (W.WP.seq (c := C1) (x := C13) (y := C2) (by kernel_rfl) <| W.WP.reg (c := C13) (fun E w => KE_S2 E w R) (by kernel_rfl) (Eq.mp (by kernel_rfl) h2) fun _ _ a hA hK => (W.WP.seq (c := C2) (x := C3) (y := C9) (by kernel_rfl) (KE_S2_ok R _ _ hK)) a hA) (ha.cons hq0 (ha.cons hq1 ha.nil))
noncomputable def C14 : Code := W.Code.fst C0
/-- hash.go:44 -/
abbrev S0 (label0 : ByteArray) (b1 : W.Sl) (w : World) (R : W.Post) : Prop :=
  S1 label0 b1 w R
def KE_S0 (E : W.Env) (w : World) (R : W.Post) : Prop := W.asStr (W.Env.get? E 0) fun label0 => W.asSlice (W.Env.get? E 1) fun b1 => S0 label0 b1 w R
theorem KE_S0_ok (R : W.Post) (E : W.Env) (w : World) (h : KE_S0 E w R) : W.WP Try.prog (W.cx 27) C0 (Q3 R) E w := by
  obtain ⟨label0, hq0, h1⟩ := W.asStr_elim h
  obtain ⟨b1, hq1, h2⟩ := W.asSlice_elim h1
  exact fun a ha => W.WP.at (n := (W.cx 27)) (E := [(0, .string label0), (1, b1.v)]) (W.WP.seq (c := C0) (x := C14) (y := C1) (by kernel_rfl) <| W.WP.reg (c := C14) (fun E w => KE_S1 E w R) (by kernel_rfl) (Eq.mp (by kernel_rfl) h2) fun _ _ a hA hK => (KE_S1_ok R _ _ hK) a hA) (ha.cons hq0 (ha.cons hq1 ha.nil))
/-- enthymeme/hash.Bytes -/
theorem ok (label0 : ByteArray) (b1 : W.Sl) (w : World) (R : W.Post) (h : S0 label0 b1 w R) : Calls Try.prog n_hash_Bytes #[.string label0, b1.v] w R :=
  W.calls_of_WPM (fn := Try.f23) (c := C0) (args := [.string label0, b1.v]) (by kernel_rfl) (by kernel_rfl) (by kernel_rfl) (KE_S0_ok R _ _ (Eq.mp (by kernel_rfl) h))
end hash_Bytes
end Go.Proofs.Ytemagdpieebjlaa
