/- Printed by a program of ours (vcgen.py) from the dump: the conditions of the functions, and that they suffice. -/
import Derived.Test.YtpfomlenbhocpaaV
set_option linter.unusedVariables false
set_option maxRecDepth 100000
namespace Go.Proofs.Ytpfomlenbhocpaa
open Go
namespace enthymemeref01_mix
noncomputable def C0 : Code := (Try.f56.body).getD .skip
noncomputable def C1 : Code := W.Code.snd C0
noncomputable def C2 : Code := W.Code.snd C1
abbrev Q0 (R : W.Post) : Exit → Act → World → Prop := (bodyPost Try.prog Try.f56 R)
noncomputable def C3 : Code := W.Code.fst C2
noncomputable def C4 : Code := W.Code.snd C2
/-- ref.go:128 -/
abbrev S2 (m5 : Int) (w : World) (R : W.Post) : Prop :=
  R (.returned (.int .u64 (W.bXor .u64 m5 (IntKind.wrap .u64 (Int.tdiv m5 4294967296))))) w
def KE_S2 (E : W.Env) (w : World) (R : W.Post) : Prop := W.asInt .u64 (W.Env.get? E 5) fun m5 => S2 m5 w R
theorem KE_S2_ok (R : W.Post) (E : W.Env) (w : World) (h : KE_S2 E w R) : W.WP Try.prog (W.cx 14) C2 (Q0 R) E w := by
  obtain ⟨m5, hq5, h1⟩ := W.asInt_elim h
  exact fun a ha => W.WP.at (n := (W.cx 14)) (E := [(5, .int .u64 m5)]) (W.WP.seq (c := C2) (x := C3) (y := C4) (by kernel_rfl) <| W.WP.reg (c := C3) (fun E w => W.retVC Try.prog Try.f56 E w (fun v => R (.returned v) w)) (by kernel_rfl) (Eq.mp (by kernel_rfl) h1) fun _ _ a hA hK => (W.WP.ret (c := C4) (by kernel_rfl) fun a hA => W.retVC_sound hA hK) a hA) (ha.cons hq5 ha.nil)
noncomputable def C5 : Code := W.Code.fst C1
/-- ref.go:127 -/
abbrev S1 (s0 wv1 : Int) (w : World) (R : W.Post) : Prop :=
  S2 (IntKind.wrap .u64 ((W.bXor .u64 s0 wv1) * 11400714819323198485)) w R
def KE_S1 (E : W.Env) (w : World) (R : W.Post) : Prop := W.asInt .u64 (W.Env.get? E 0) fun s0 => W.asInt .u64 (W.Env.get? E 1) fun wv1 => S1 s0 wv1 w R
theorem KE_S1_ok (R : W.Post) (E : W.Env) (w : World) (h : KE_S1 E w R) : W.WP Try.prog (W.cx 14) C1 (Q0 R) E w := by
  obtain ⟨s0, hq0, h1⟩ := W.asInt_elim h
  obtain ⟨wv1, hq1, h2⟩ := W.asInt_elim h1
  exact fun a ha => W.WP.at (n := (W.cx 14)) (E := [(0, .int .u64 s0), (1, .int .u64 wv1)]) (W.WP.seq (c := C1) (x := C5) (y := C2) (by kernel_rfl) <| W.WP.reg (c := C5) (fun E w => KE_S2 E w R) (by kernel_rfl) (Eq.mp (by kernel_rfl) h2) fun _ _ a hA hK => (KE_S2_ok R _ _ hK) a hA) (ha.cons hq0 (ha.cons hq1 ha.nil))
noncomputable def C6 : Code := W.Code.fst C0
/-- ref.go:126 -/
abbrev S0 (s0 wv1 : Int) (w : World) (R : W.Post) : Prop :=
  S1 s0 wv1 w R
def KE_S0 (E : W.Env) (w : World) (R : W.Post) : Prop := W.asInt .u64 (W.Env.get? E 0) fun s0 => W.asInt .u64 (W.Env.get? E 1) fun wv1 => S0 s0 wv1 w R
theorem KE_S0_ok (R : W.Post) (E : W.Env) (w : World) (h : KE_S0 E w R) : W.WP Try.prog (W.cx 14) C0 (Q0 R) E w := by
  obtain ⟨s0, hq0, h1⟩ := W.asInt_elim h
  obtain ⟨wv1, hq1, h2⟩ := W.asInt_elim h1
  exact fun a ha => W.WP.at (n := (W.cx 14)) (E := [(0, .int .u64 s0), (1, .int .u64 wv1)]) (W.WP.seq (c := C0) (x := C6) (y := C1) (by kernel_rfl) <| W.WP.reg (c := C6) (fun E w => KE_S1 E w R) (by kernel_rfl) (Eq.mp (by kernel_rfl) h2) fun _ _ a hA hK => (KE_S1_ok R _ _ hK) a hA) (ha.cons hq0 (ha.cons hq1 ha.nil))
/-- enthymeme/enthymemeref01.mix -/
theorem ok (s0 wv1 : Int) (w : World) (R : W.Post) (h : S0 s0 wv1 w R) : Calls Try.prog n_enthymemeref01_mix #[.int .u64 s0, .int .u64 wv1] w R :=
  W.calls_of_WP' (fn := Try.f56) (c := C0) (args := [.int .u64 s0, .int .u64 wv1]) (by kernel_rfl) (by kernel_rfl) (by kernel_rfl) (KE_S0_ok R _ _ (Eq.mp (by kernel_rfl) h))
end enthymemeref01_mix
namespace enthymemeref01_Words
noncomputable def C0 : Code := (Try.f47.body).getD .skip
noncomputable def C1 : Code := W.Code.snd C0
noncomputable def C2 : Code := W.Code.snd C1
noncomputable def C3 : Code := W.Code.fst C2
noncomputable def C4 : Code := W.Code.snd C3
noncomputable def C5 : Code := W.Code.fst C4
noncomputable def C6 : Code := W.Code.fst C5
noncomputable def C7 : Code := W.Code.snd C2
abbrev Q0 (R : W.Post) : Exit → Act → World → Prop := (Exit.then (W.wpx Try.prog (W.cx 37) C7 (bodyPost Try.prog Try.f47 R)) (bodyPost Try.prog Try.f47 R))
abbrev Q1 (R : W.Post) : Exit → Act → World → Prop := (Exit.inBlock 0 (Q0 R))
/-- the head of the loop, ref.go:115 -/
def L3 (b0 out3 : W.Sl) (i4 : Int) (w : World) (R : W.Post) : Prop := W.LP Try.prog (W.cx 37) C6 (Q1 R) [(0, b0.v), (3, out3.v), (4, .int .i64 i4)] w
def KE_L3 (E : W.Env) (w : World) (R : W.Post) : Prop := W.asSlice (W.Env.get? E 0) fun b0 => W.asSlice (W.Env.get? E 3) fun out3 => W.asInt .i64 (W.Env.get? E 4) fun i4 => L3 b0 out3 i4 w R
theorem KE_L3_ok (R : W.Post) (E : W.Env) (w : World) (h : KE_L3 E w R) : W.LP Try.prog (W.cx 37) C6 (Q1 R) E w := by
  obtain ⟨b0, hq0, h1⟩ := W.asSlice_elim h
  obtain ⟨out3, hq3, h2⟩ := W.asSlice_elim h1
  obtain ⟨i4, hq4, h3⟩ := W.asInt_elim h2
  intro a ha
  exact h3 a (ha.cons hq0 (ha.cons hq3 (ha.cons hq4 ha.nil)))
noncomputable def C8 : Code := W.Code.snd C6
noncomputable def C9 : Code := W.Code.fst C8
noncomputable def C10 : Code := W.Code.fst C9
noncomputable def C11 : Code := W.Code.snd C10
noncomputable def C12 : Code := W.Code.fst C11
noncomputable def C13 : Code := W.Code.snd C12
noncomputable def C14 : Code := W.Code.fst C13
noncomputable def C15 : Code := W.Code.fst C14
noncomputable def C16 : Code := W.Code.snd C8
abbrev Q2 (R : W.Post) : Exit → Act → World → Prop := (Exit.then (W.wpx Try.prog (W.cx 37) C16 (Exit.then (W.LoopWP Try.prog (W.cx 37) C6 (Q1 R)) (Q1 R))) (Exit.then (W.LoopWP Try.prog (W.cx 37) C6 (Q1 R)) (Q1 R)))
noncomputable def C17 : Code := W.Code.snd C11
abbrev Q3 (R : W.Post) : Exit → Act → World → Prop := (Exit.then (W.wpx Try.prog (W.cx 37) C17 (Exit.inBlock 1 (Q2 R))) (Exit.inBlock 1 (Q2 R)))
abbrev Q4 (R : W.Post) : Exit → Act → World → Prop := (Exit.inBlock 2 (Q3 R))
/-- the head of the loop, ref.go:117 -/
def L7 (b0 out3 : W.Sl) (i4 wv5 k6 : Int) (w : World) (R : W.Post) : Prop := W.LP Try.prog (W.cx 37) C15 (Q4 R) [(0, b0.v), (3, out3.v), (4, .int .i64 i4), (5, .int .u64 wv5), (6, .int .i64 k6)] w
def KE_L7 (E : W.Env) (w : World) (R : W.Post) : Prop := W.asSlice (W.Env.get? E 0) fun b0 => W.asSlice (W.Env.get? E 3) fun out3 => W.asInt .i64 (W.Env.get? E 4) fun i4 => W.asInt .u64 (W.Env.get? E 5) fun wv5 => W.asInt .i64 (W.Env.get? E 6) fun k6 => L7 b0 out3 i4 wv5 k6 w R
theorem KE_L7_ok (R : W.Post) (E : W.Env) (w : World) (h : KE_L7 E w R) : W.LP Try.prog (W.cx 37) C15 (Q4 R) E w := by
  obtain ⟨b0, hq0, h1⟩ := W.asSlice_elim h
  obtain ⟨out3, hq3, h2⟩ := W.asSlice_elim h1
  obtain ⟨i4, hq4, h3⟩ := W.asInt_elim h2
  obtain ⟨wv5, hq5, h4⟩ := W.asInt_elim h3
  obtain ⟨k6, hq6, h5⟩ := W.asInt_elim h4
  intro a ha
  exact h5 a (ha.cons hq0 (ha.cons hq3 (ha.cons hq4 (ha.cons hq5 (ha.cons hq6 ha.nil)))))
noncomputable def C18 : Code := W.Code.snd C15
noncomputable def C19 : Code := W.Code.snd C18
abbrev Q5 (R : W.Post) : Exit → Act → World → Prop := (Exit.then (W.LoopWP Try.prog (W.cx 37) C15 (Q4 R)) (Q4 R))
/-- ref.go:117 -/
abbrev S10 (b0 out3 : W.Sl) (i4 wv5 k6 : Int) (w : World) (R : W.Post) : Prop :=
  L7 b0 out3 i4 wv5 (IntKind.wrap .i64 (k6 - 1)) w R
def KE_S10 (E : W.Env) (w : World) (R : W.Post) : Prop := W.asSlice (W.Env.get? E 0) fun b0 => W.asSlice (W.Env.get? E 3) fun out3 => W.asInt .i64 (W.Env.get? E 4) fun i4 => W.asInt .u64 (W.Env.get? E 5) fun wv5 => W.asInt .i64 (W.Env.get? E 6) fun k6 => S10 b0 out3 i4 wv5 k6 w R
theorem KE_S10_ok (R : W.Post) (E : W.Env) (w : World) (h : KE_S10 E w R) : W.WP Try.prog (W.cx 37) C19 (Q5 R) E w := by
  obtain ⟨b0, hq0, h1⟩ := W.asSlice_elim h
  obtain ⟨out3, hq3, h2⟩ := W.asSlice_elim h1
  obtain ⟨i4, hq4, h3⟩ := W.asInt_elim h2
  obtain ⟨wv5, hq5, h4⟩ := W.asInt_elim h3
  obtain ⟨k6, hq6, h5⟩ := W.asInt_elim h4
  exact fun a ha => W.WP.at (n := (W.cx 37)) (E := [(0, b0.v), (3, out3.v), (4, .int .i64 i4), (5, .int .u64 wv5), (6, .int .i64 k6)]) (W.WP.reg (c := C19) (fun E w => KE_L7 E w R) (by kernel_rfl) (Eq.mp (by kernel_rfl) h5) fun _ _ a hA hK => KE_L7_ok R _ _ hK a hA) (ha.cons hq0 (ha.cons hq3 (ha.cons hq4 (ha.cons hq5 (ha.cons hq6 ha.nil)))))
noncomputable def C20 : Code := W.Code.fst C18
noncomputable def C21 : Code := W.Code.fst C20
abbrev Q6 (R : W.Post) : Exit → Act → World → Prop := (Exit.then (W.wpx Try.prog (W.cx 37) C19 (Exit.then (W.LoopWP Try.prog (W.cx 37) C15 (Q4 R)) (Q4 R))) (Exit.then (W.LoopWP Try.prog (W.cx 37) C15 (Q4 R)) (Q4 R)))
abbrev Q7 (R : W.Post) : Exit → Act → World → Prop := (Exit.inBlock 3 (Q6 R))
/-- ref.go:118 -/
abbrev S9 (b0 out3 : W.Sl) (i4 wv5 k6 : Int) (w : World) (R : W.Post) : Prop :=
  (0 : Int) ≤ k6 ∧ k6 < ((b0.n : Nat) : Int) ∧ W.optP b0.a fun t28_p => ∃ t29 : Int, w.cell? (t28_p.add (Int.toNat k6 * 1)) = some (.int .u8 t29) ∧ 
  S10 b0 out3 i4 (IntKind.wrap .u64 ((IntKind.wrap .u64 (256 * wv5)) + (IntKind.wrap .u64 t29))) k6 w R
def KE_S9 (E : W.Env) (w : World) (R : W.Post) : Prop := W.asSlice (W.Env.get? E 0) fun b0 => W.asSlice (W.Env.get? E 3) fun out3 => W.asInt .i64 (W.Env.get? E 4) fun i4 => W.asInt .u64 (W.Env.get? E 5) fun wv5 => W.asInt .i64 (W.Env.get? E 6) fun k6 => S9 b0 out3 i4 wv5 k6 w R
theorem KE_S9_ok (R : W.Post) (E : W.Env) (w : World) (h : KE_S9 E w R) : W.WP Try.prog (W.cx 37) C21 (Q7 R) E w := by
  obtain ⟨b0, hq0, h1⟩ := W.asSlice_elim h
  obtain ⟨out3, hq3, h2⟩ := W.asSlice_elim h1
  obtain ⟨i4, hq4, h3⟩ := W.asInt_elim h2
  obtain ⟨wv5, hq5, h4⟩ := W.asInt_elim h3
  obtain ⟨k6, hq6, h5⟩ := W.asInt_elim h4
  exact fun a ha => W.WP.at (n := (W.cx 37)) (E := [(0, b0.v), (3, out3.v), (4, .int .i64 i4), (5, .int .u64 wv5), (6, .int .i64 k6)]) (W.WP.reg (c := C21) (fun E w => KE_S10 E w R) (by kernel_rfl) (Eq.mp (by kernel_rfl) h5) fun _ _ a hA hK => (KE_S10_ok R _ _ hK) a hA) (ha.cons hq0 (ha.cons hq3 (ha.cons hq4 (ha.cons hq5 (ha.cons hq6 ha.nil)))))
abbrev Q8 (R : W.Post) : Exit → Act → World → Prop := (Exit.then (W.LoopWP Try.prog (W.cx 37) C6 (Q1 R)) (Q1 R))
/-- ref.go:115 -/
abbrev S12 (b0 out3 : W.Sl) (i4 : Int) (w : World) (R : W.Post) : Prop :=
  L3 b0 out3 (IntKind.wrap .i64 (i4 + 8)) w R
def KE_S12 (E : W.Env) (w : World) (R : W.Post) : Prop := W.asSlice (W.Env.get? E 0) fun b0 => W.asSlice (W.Env.get? E 3) fun out3 => W.asInt .i64 (W.Env.get? E 4) fun i4 => S12 b0 out3 i4 w R
theorem KE_S12_ok (R : W.Post) (E : W.Env) (w : World) (h : KE_S12 E w R) : W.WP Try.prog (W.cx 37) C16 (Q8 R) E w := by
  obtain ⟨b0, hq0, h1⟩ := W.asSlice_elim h
  obtain ⟨out3, hq3, h2⟩ := W.asSlice_elim h1
  obtain ⟨i4, hq4, h3⟩ := W.asInt_elim h2
  exact fun a ha => W.WP.at (n := (W.cx 37)) (E := [(0, b0.v), (3, out3.v), (4, .int .i64 i4)]) (W.WP.reg (c := C16) (fun E w => KE_L3 E w R) (by kernel_rfl) (Eq.mp (by kernel_rfl) h3) fun _ _ a hA hK => KE_L3_ok R _ _ hK a hA) (ha.cons hq0 (ha.cons hq3 (ha.cons hq4 ha.nil)))
abbrev Q9 (R : W.Post) : Exit → Act → World → Prop := (Exit.inBlock 1 (Q2 R))
/-- ref.go:120 -/
abbrev S11 (b0 out3 : W.Sl) (i4 wv5 : Int) (w : World) (R : W.Post) : Prop :=
  let w1 := w.alloc (.cells #[.int .u64 wv5] ty_uint64)
  ∃ (t35 : W.Sl) (w2 : World), Sem.run Try.prog (Builtin.append_ #[ty_sl_uint64, ty_sl_uint64] ty_sl_uint64 #[out3.v, .slice (some (Addr.mk w.heap.size 0 none)) 1 1]) w1 = .ok (t35.v) w2 ∧ S12 b0 t35 i4 w2 R
def KE_S11 (E : W.Env) (w : World) (R : W.Post) : Prop := W.asSlice (W.Env.get? E 0) fun b0 => W.asSlice (W.Env.get? E 3) fun out3 => W.asInt .i64 (W.Env.get? E 4) fun i4 => W.asInt .u64 (W.Env.get? E 5) fun wv5 => S11 b0 out3 i4 wv5 w R
theorem KE_S11_ok (R : W.Post) (E : W.Env) (w : World) (h : KE_S11 E w R) : W.WP Try.prog (W.cx 37) C17 (Q9 R) E w := by
  obtain ⟨b0, hq0, h1⟩ := W.asSlice_elim h
  obtain ⟨out3, hq3, h2⟩ := W.asSlice_elim h1
  obtain ⟨i4, hq4, h3⟩ := W.asInt_elim h2
  obtain ⟨wv5, hq5, h4⟩ := W.asInt_elim h3
  exact fun a ha => W.WP.at (n := (W.cx 37)) (E := [(0, b0.v), (3, out3.v), (4, .int .i64 i4), (5, .int .u64 wv5)]) (W.WP.reg (c := C17) (fun E w => KE_S12 E w R) (by kernel_rfl) (Eq.mp (by kernel_rfl) h4) fun _ _ a hA hK => (KE_S12_ok R _ _ hK) a hA) (ha.cons hq0 (ha.cons hq3 (ha.cons hq4 (ha.cons hq5 ha.nil))))
noncomputable def C22 : Code := W.Code.fst C15
abbrev Q10 (R : W.Post) : Exit → Act → World → Prop := (Exit.then (W.wpx Try.prog (W.cx 37) C18 (Exit.then (W.LoopWP Try.prog (W.cx 37) C15 (Q4 R)) (Q4 R))) (Exit.then (W.LoopWP Try.prog (W.cx 37) C15 (Q4 R)) (Q4 R)))
noncomputable def C23 : Code := W.Code.fst C22
noncomputable def C24 : Code := W.Code.snd C22
noncomputable def C25 : Code := W.Code.fst C24
noncomputable def C26 : Code := W.Code.snd C24
/-- ref.go:117 -/
abbrev S8 (b0 out3 : W.Sl) (i4 wv5 k6 : Int) (w : World) (R : W.Post) : Prop :=
  W.sel (decide (k6 ≥ i4)) (S9 b0 out3 i4 wv5 k6 w R) (S11 b0 out3 i4 wv5 w R)
def KE_S8 (E : W.Env) (w : World) (R : W.Post) : Prop := W.asSlice (W.Env.get? E 0) fun b0 => W.asSlice (W.Env.get? E 3) fun out3 => W.asInt .i64 (W.Env.get? E 4) fun i4 => W.asInt .u64 (W.Env.get? E 5) fun wv5 => W.asInt .i64 (W.Env.get? E 6) fun k6 => S8 b0 out3 i4 wv5 k6 w R
theorem KE_S8_ok (R : W.Post) (E : W.Env) (w : World) (h : KE_S8 E w R) : W.WP Try.prog (W.cx 37) C22 (Q10 R) E w := by
  obtain ⟨b0, hq0, h1⟩ := W.asSlice_elim h
  obtain ⟨out3, hq3, h2⟩ := W.asSlice_elim h1
  obtain ⟨i4, hq4, h3⟩ := W.asInt_elim h2
  obtain ⟨wv5, hq5, h4⟩ := W.asInt_elim h3
  obtain ⟨k6, hq6, h5⟩ := W.asInt_elim h4
  exact fun a ha => W.WP.at (n := (W.cx 37)) (E := [(0, b0.v), (3, out3.v), (4, .int .i64 i4), (5, .int .u64 wv5), (6, .int .i64 k6)]) (W.WP.seq (c := C22) (x := C23) (y := C24) (by kernel_rfl) <| W.WP.reg (c := C23) (fun E w => W.condK (W.Env.val E (.tmp 21)) (KE_S9 E w R) (KE_S11 E w R)) (by kernel_rfl) (Eq.mp (by kernel_rfl) h5) fun _ _ a hA hK => (W.WP.condK (c := C24) (x := C25) (y := C26) (o := .tmp 21) (by kernel_rfl) (fun hK => (W.WP.skip (c := C25) (by kernel_rfl) fun a hA => (W.WP.seq (c := C18) (x := C20) (y := C19) (by kernel_rfl) (W.WP.block (c := C20) (x := C21) (id := 3) (by kernel_rfl) (KE_S9_ok R _ _ hK))) a hA)) (fun hK => (W.WP.exit (c := C26) (id := 2) (by kernel_rfl) fun a hA => (KE_S11_ok R _ _ hK) a hA)) hK) a hA) (ha.cons hq0 (ha.cons hq3 (ha.cons hq4 (ha.cons hq5 (ha.cons hq6 ha.nil)))))
theorem L7_step (b0 out3 : W.Sl) (i4 wv5 k6 : Int) (w : World) (R : W.Post) (h : S8 b0 out3 i4 wv5 k6 w R) : L7 b0 out3 i4 wv5 k6 w R :=
  W.LP.step (n := (W.cx 37)) (c := C15) (E := [(0, b0.v), (3, out3.v), (4, .int .i64 i4), (5, .int .u64 wv5), (6, .int .i64 k6)]) (w := w) (W.WP.seq (c := C15) (x := C22) (y := C18) (by kernel_rfl) (KE_S8_ok R _ _ (Eq.mp (by kernel_rfl) h)))
noncomputable def C27 : Code := W.Code.fst C12
/-- ref.go:117 -/
abbrev S6 (b0 out3 : W.Sl) (i4 wv5 : Int) (w : World) (R : W.Post) : Prop :=
  L7 b0 out3 i4 wv5 (IntKind.wrap .i64 ((if ((b0.n : Nat) : Int) < IntKind.wrap .i64 (i4 + 8) then ((b0.n : Nat) : Int) else IntKind.wrap .i64 (i4 + 8)) - 1)) w R
def KE_S6 (E : W.Env) (w : World) (R : W.Post) : Prop := W.asSlice (W.Env.get? E 0) fun b0 => W.asSlice (W.Env.get? E 3) fun out3 => W.asInt .i64 (W.Env.get? E 4) fun i4 => W.asInt .u64 (W.Env.get? E 5) fun wv5 => S6 b0 out3 i4 wv5 w R
theorem KE_S6_ok (R : W.Post) (E : W.Env) (w : World) (h : KE_S6 E w R) : W.WP Try.prog (W.cx 37) C12 (Q3 R) E w := by
  obtain ⟨b0, hq0, h1⟩ := W.asSlice_elim h
  obtain ⟨out3, hq3, h2⟩ := W.asSlice_elim h1
  obtain ⟨i4, hq4, h3⟩ := W.asInt_elim h2
  obtain ⟨wv5, hq5, h4⟩ := W.asInt_elim h3
  exact fun a ha => W.WP.at (n := (W.cx 37)) (E := [(0, b0.v), (3, out3.v), (4, .int .i64 i4), (5, .int .u64 wv5)]) (W.WP.seq (c := C12) (x := C27) (y := C13) (by kernel_rfl) <| W.WP.reg (c := C27) (fun E w => KE_L7 E w R) (by kernel_rfl) (Eq.mp (by kernel_rfl) h4) fun _ _ a hA hK => (W.WP.block (c := C13) (x := C14) (id := 2) (by kernel_rfl) (W.WP.loop (c := C14) (x := C15) (by kernel_rfl) (KE_L7_ok R _ _ hK))) a hA) (ha.cons hq0 (ha.cons hq3 (ha.cons hq4 (ha.cons hq5 ha.nil))))
noncomputable def C28 : Code := W.Code.fst C10
/-- ref.go:116 -/
abbrev S5 (b0 out3 : W.Sl) (i4 : Int) (w : World) (R : W.Post) : Prop :=
  S6 b0 out3 i4 0 w R
def KE_S5 (E : W.Env) (w : World) (R : W.Post) : Prop := W.asSlice (W.Env.get? E 0) fun b0 => W.asSlice (W.Env.get? E 3) fun out3 => W.asInt .i64 (W.Env.get? E 4) fun i4 => S5 b0 out3 i4 w R
theorem KE_S5_ok (R : W.Post) (E : W.Env) (w : World) (h : KE_S5 E w R) : W.WP Try.prog (W.cx 37) C10 (Q9 R) E w := by
  obtain ⟨b0, hq0, h1⟩ := W.asSlice_elim h
  obtain ⟨out3, hq3, h2⟩ := W.asSlice_elim h1
  obtain ⟨i4, hq4, h3⟩ := W.asInt_elim h2
  exact fun a ha => W.WP.at (n := (W.cx 37)) (E := [(0, b0.v), (3, out3.v), (4, .int .i64 i4)]) (W.WP.seq (c := C10) (x := C28) (y := C11) (by kernel_rfl) <| W.WP.reg (c := C28) (fun E w => KE_S6 E w R) (by kernel_rfl) (Eq.mp (by kernel_rfl) h3) fun _ _ a hA hK => (W.WP.seq (c := C11) (x := C12) (y := C17) (by kernel_rfl) (KE_S6_ok R _ _ hK)) a hA) (ha.cons hq0 (ha.cons hq3 (ha.cons hq4 ha.nil)))
abbrev Q11 (R : W.Post) : Exit → Act → World → Prop := (bodyPost Try.prog Try.f47 R)
noncomputable def C29 : Code := W.Code.fst C7
noncomputable def C30 : Code := W.Code.snd C7
/-- ref.go:122 -/
abbrev S13 (out3 : W.Sl) (w : World) (R : W.Post) : Prop :=
  R (.returned (out3.v)) w
def KE_S13 (E : W.Env) (w : World) (R : W.Post) : Prop := W.asSlice (W.Env.get? E 3) fun out3 => S13 out3 w R
theorem KE_S13_ok (R : W.Post) (E : W.Env) (w : World) (h : KE_S13 E w R) : W.WP Try.prog (W.cx 37) C7 (Q11 R) E w := by
  obtain ⟨out3, hq3, h1⟩ := W.asSlice_elim h
  exact fun a ha => W.WP.at (n := (W.cx 37)) (E := [(3, out3.v)]) (W.WP.seq (c := C7) (x := C29) (y := C30) (by kernel_rfl) <| W.WP.reg (c := C29) (fun E w => W.retVC Try.prog Try.f47 E w (fun v => R (.returned v) w)) (by kernel_rfl) (Eq.mp (by kernel_rfl) h1) fun _ _ a hA hK => (W.WP.ret (c := C30) (by kernel_rfl) fun a hA => W.retVC_sound hA hK) a hA) (ha.cons hq3 ha.nil)
noncomputable def C31 : Code := W.Code.fst C6
abbrev Q12 (R : W.Post) : Exit → Act → World → Prop := (Exit.then (W.wpx Try.prog (W.cx 37) C8 (Exit.then (W.LoopWP Try.prog (W.cx 37) C6 (Q1 R)) (Q1 R))) (Exit.then (W.LoopWP Try.prog (W.cx 37) C6 (Q1 R)) (Q1 R)))
noncomputable def C32 : Code := W.Code.fst C31
noncomputable def C33 : Code := W.Code.snd C31
noncomputable def C34 : Code := W.Code.fst C33
noncomputable def C35 : Code := W.Code.snd C33
/-- ref.go:115 -/
abbrev S4 (b0 out3 : W.Sl) (i4 : Int) (w : World) (R : W.Post) : Prop :=
  W.sel (decide (i4 < ((b0.n : Nat) : Int))) (S5 b0 out3 i4 w R) (S13 out3 w R)
def KE_S4 (E : W.Env) (w : World) (R : W.Post) : Prop := W.asSlice (W.Env.get? E 0) fun b0 => W.asSlice (W.Env.get? E 3) fun out3 => W.asInt .i64 (W.Env.get? E 4) fun i4 => S4 b0 out3 i4 w R
theorem KE_S4_ok (R : W.Post) (E : W.Env) (w : World) (h : KE_S4 E w R) : W.WP Try.prog (W.cx 37) C31 (Q12 R) E w := by
  obtain ⟨b0, hq0, h1⟩ := W.asSlice_elim h
  obtain ⟨out3, hq3, h2⟩ := W.asSlice_elim h1
  obtain ⟨i4, hq4, h3⟩ := W.asInt_elim h2
  exact fun a ha => W.WP.at (n := (W.cx 37)) (E := [(0, b0.v), (3, out3.v), (4, .int .i64 i4)]) (W.WP.seq (c := C31) (x := C32) (y := C33) (by kernel_rfl) <| W.WP.reg (c := C32) (fun E w => W.condK (W.Env.val E (.tmp 10)) (KE_S5 E w R) (KE_S13 E w R)) (by kernel_rfl) (Eq.mp (by kernel_rfl) h3) fun _ _ a hA hK => (W.WP.condK (c := C33) (x := C34) (y := C35) (o := .tmp 10) (by kernel_rfl) (fun hK => (W.WP.skip (c := C34) (by kernel_rfl) fun a hA => (W.WP.seq (c := C8) (x := C9) (y := C16) (by kernel_rfl) (W.WP.block (c := C9) (x := C10) (id := 1) (by kernel_rfl) (KE_S5_ok R _ _ hK))) a hA)) (fun hK => (W.WP.exit (c := C35) (id := 0) (by kernel_rfl) fun a hA => (KE_S13_ok R _ _ hK) a hA)) hK) a hA) (ha.cons hq0 (ha.cons hq3 (ha.cons hq4 ha.nil)))
theorem L3_step (b0 out3 : W.Sl) (i4 : Int) (w : World) (R : W.Post) (h : S4 b0 out3 i4 w R) : L3 b0 out3 i4 w R :=
  W.LP.step (n := (W.cx 37)) (c := C6) (E := [(0, b0.v), (3, out3.v), (4, .int .i64 i4)]) (w := w) (W.WP.seq (c := C6) (x := C31) (y := C8) (by kernel_rfl) (KE_S4_ok R _ _ (Eq.mp (by kernel_rfl) h)))
noncomputable def C36 : Code := W.Code.fst C3
/-- ref.go:115 -/
abbrev S2 (b0 out3 : W.Sl) (w : World) (R : W.Post) : Prop :=
  L3 b0 out3 0 w R
def KE_S2 (E : W.Env) (w : World) (R : W.Post) : Prop := W.asSlice (W.Env.get? E 0) fun b0 => W.asSlice (W.Env.get? E 3) fun out3 => S2 b0 out3 w R
theorem KE_S2_ok (R : W.Post) (E : W.Env) (w : World) (h : KE_S2 E w R) : W.WP Try.prog (W.cx 37) C3 (Q0 R) E w := by
  obtain ⟨b0, hq0, h1⟩ := W.asSlice_elim h
  obtain ⟨out3, hq3, h2⟩ := W.asSlice_elim h1
  exact fun a ha => W.WP.at (n := (W.cx 37)) (E := [(0, b0.v), (3, out3.v)]) (W.WP.seq (c := C3) (x := C36) (y := C4) (by kernel_rfl) <| W.WP.reg (c := C36) (fun E w => KE_L3 E w R) (by kernel_rfl) (Eq.mp (by kernel_rfl) h2) fun _ _ a hA hK => (W.WP.block (c := C4) (x := C5) (id := 0) (by kernel_rfl) (W.WP.loop (c := C5) (x := C6) (by kernel_rfl) (KE_L3_ok R _ _ hK))) a hA) (ha.cons hq0 (ha.cons hq3 ha.nil))
noncomputable def C37 : Code := W.Code.fst C1
/-- ref.go:114 -/
abbrev S1 (b0 : W.Sl) (w : World) (R : W.Post) : Prop :=
  S2 b0 ⟨none, 0, 0⟩ w R
def KE_S1 (E : W.Env) (w : World) (R : W.Post) : Prop := W.asSlice (W.Env.get? E 0) fun b0 => S1 b0 w R
theorem KE_S1_ok (R : W.Post) (E : W.Env) (w : World) (h : KE_S1 E w R) : W.WP Try.prog (W.cx 37) C1 (Q11 R) E w := by
  obtain ⟨b0, hq0, h1⟩ := W.asSlice_elim h
  exact fun a ha => W.WP.at (n := (W.cx 37)) (E := [(0, b0.v)]) (W.WP.seq (c := C1) (x := C37) (y := C2) (by kernel_rfl) <| W.WP.reg (c := C37) (fun E w => KE_S2 E w R) (by kernel_rfl) (Eq.mp (by kernel_rfl) h1) fun _ _ a hA hK => (W.WP.seq (c := C2) (x := C3) (y := C7) (by kernel_rfl) (KE_S2_ok R _ _ hK)) a hA) (ha.cons hq0 ha.nil)
noncomputable def C38 : Code := W.Code.fst C0
/-- ref.go:113 -/
abbrev S0 (b0 : W.Sl) (w : World) (R : W.Post) : Prop :=
  S1 b0 w R
def KE_S0 (E : W.Env) (w : World) (R : W.Post) : Prop := W.asSlice (W.Env.get? E 0) fun b0 => S0 b0 w R
theorem KE_S0_ok (R : W.Post) (E : W.Env) (w : World) (h : KE_S0 E w R) : W.WP Try.prog (W.cx 37) C0 (Q11 R) E w := by
  obtain ⟨b0, hq0, h1⟩ := W.asSlice_elim h
  exact fun a ha => W.WP.at (n := (W.cx 37)) (E := [(0, b0.v)]) (W.WP.seq (c := C0) (x := C38) (y := C1) (by kernel_rfl) <| W.WP.reg (c := C38) (fun E w => KE_S1 E w R) (by kernel_rfl) (Eq.mp (by kernel_rfl) h1) fun _ _ a hA hK => (KE_S1_ok R _ _ hK) a hA) (ha.cons hq0 ha.nil)
/-- enthymeme/enthymemeref01.Words -/
theorem ok (b0 : W.Sl) (w : World) (R : W.Post) (h : S0 b0 w R) : Calls Try.prog n_enthymemeref01_Words #[b0.v] w R :=
  W.calls_of_WP' (fn := Try.f47) (c := C0) (args := [b0.v]) (by kernel_rfl) (by kernel_rfl) (by kernel_rfl) (KE_S0_ok R _ _ (Eq.mp (by kernel_rfl) h))
end enthymemeref01_Words
namespace enthymemeref01_Sum
noncomputable def C0 : Code := (Try.f48.body).getD .skip
noncomputable def C1 : Code := W.Code.snd C0
noncomputable def C2 : Code := W.Code.snd C1
noncomputable def C3 : Code := W.Code.snd C2
noncomputable def C4 : Code := W.Code.fst C3
noncomputable def C5 : Code := W.Code.snd C4
noncomputable def C6 : Code := W.Code.fst C5
noncomputable def C7 : Code := W.Code.fst C6
noncomputable def C8 : Code := W.Code.snd C3
abbrev Q0 (R : W.Post) : Exit → Act → World → Prop := (Exit.then (W.wpx Try.prog (W.cx 49) C8 (bodyPost Try.prog Try.f48 R)) (bodyPost Try.prog Try.f48 R))
abbrev Q1 (R : W.Post) : Exit → Act → World → Prop := (Exit.inBlock 0 (Q0 R))
/-- the head of the loop, ref.go:135 -/
def L4 (label0 : ByteArray) (l1 : W.Sl) (s5 : Int) (wv6 : W.Sl) (i7 : Int) (w : World) (R : W.Post) : Prop := W.LP Try.prog (W.cx 49) C7 (Q1 R) [(0, .string label0), (1, l1.v), (5, .int .u64 s5), (6, wv6.v), (7, .int .i64 i7)] w
def KE_L4 (E : W.Env) (w : World) (R : W.Post) : Prop := W.asStr (W.Env.get? E 0) fun label0 => W.asSlice (W.Env.get? E 1) fun l1 => W.asInt .u64 (W.Env.get? E 5) fun s5 => W.asSlice (W.Env.get? E 6) fun wv6 => W.asInt .i64 (W.Env.get? E 7) fun i7 => L4 label0 l1 s5 wv6 i7 w R
theorem KE_L4_ok (R : W.Post) (E : W.Env) (w : World) (h : KE_L4 E w R) : W.LP Try.prog (W.cx 49) C7 (Q1 R) E w := by
  obtain ⟨label0, hq0, h1⟩ := W.asStr_elim h
  obtain ⟨l1, hq1, h2⟩ := W.asSlice_elim h1
  obtain ⟨s5, hq5, h3⟩ := W.asInt_elim h2
  obtain ⟨wv6, hq6, h4⟩ := W.asSlice_elim h3
  obtain ⟨i7, hq7, h5⟩ := W.asInt_elim h4
  intro a ha
  exact h5 a (ha.cons hq0 (ha.cons hq1 (ha.cons hq5 (ha.cons hq6 (ha.cons hq7 ha.nil)))))
noncomputable def C9 : Code := W.Code.snd C7
noncomputable def C10 : Code := W.Code.snd C9
abbrev Q2 (R : W.Post) : Exit → Act → World → Prop := (Exit.then (W.LoopWP Try.prog (W.cx 49) C7 (Q1 R)) (Q1 R))
/-- ref.go:135 -/
abbrev S7 (label0 : ByteArray) (l1 : W.Sl) (s5 : Int) (wv6 : W.Sl) (i7 : Int) (w : World) (R : W.Post) : Prop :=
  L4 label0 l1 s5 wv6 (IntKind.wrap .i64 (i7 + 1)) w R
def KE_S7 (E : W.Env) (w : World) (R : W.Post) : Prop := W.asStr (W.Env.get? E 0) fun label0 => W.asSlice (W.Env.get? E 1) fun l1 => W.asInt .u64 (W.Env.get? E 5) fun s5 => W.asSlice (W.Env.get? E 6) fun wv6 => W.asInt .i64 (W.Env.get? E 7) fun i7 => S7 label0 l1 s5 wv6 i7 w R
theorem KE_S7_ok (R : W.Post) (E : W.Env) (w : World) (h : KE_S7 E w R) : W.WP Try.prog (W.cx 49) C10 (Q2 R) E w := by
  obtain ⟨label0, hq0, h1⟩ := W.asStr_elim h
  obtain ⟨l1, hq1, h2⟩ := W.asSlice_elim h1
  obtain ⟨s5, hq5, h3⟩ := W.asInt_elim h2
  obtain ⟨wv6, hq6, h4⟩ := W.asSlice_elim h3
  obtain ⟨i7, hq7, h5⟩ := W.asInt_elim h4
  exact fun a ha => W.WP.at (n := (W.cx 49)) (E := [(0, .string label0), (1, l1.v), (5, .int .u64 s5), (6, wv6.v), (7, .int .i64 i7)]) (W.WP.reg (c := C10) (fun E w => KE_L4 E w R) (by kernel_rfl) (Eq.mp (by kernel_rfl) h5) fun _ _ a hA hK => KE_L4_ok R _ _ hK a hA) (ha.cons hq0 (ha.cons hq1 (ha.cons hq5 (ha.cons hq6 (ha.cons hq7 ha.nil)))))
noncomputable def C11 : Code := W.Code.fst C9
noncomputable def C12 : Code := W.Code.fst C11
abbrev Q3 (R : W.Post) : Exit → Act → World → Prop := (Exit.then (W.wpx Try.prog (W.cx 49) C10 (Exit.then (W.LoopWP Try.prog (W.cx 49) C7 (Q1 R)) (Q1 R))) (Exit.then (W.LoopWP Try.prog (W.cx 49) C7 (Q1 R)) (Q1 R)))
abbrev Q4 (R : W.Post) : Exit → Act → World → Prop := (Exit.inBlock 1 (Q3 R))
/-- ref.go:136 -/
abbrev S6 (label0 : ByteArray) (l1 : W.Sl) (s5 : Int) (wv6 : W.Sl) (i7 : Int) (w : World) (R : W.Post) : Prop :=
  (0 : Int) ≤ i7 ∧ i7 < ((wv6.n : Nat) : Int) ∧ W.optP wv6.a fun t21_p => ∃ t22 : Int, w.cell? (t21_p.add (Int.toNat i7 * 1)) = some (.int .u64 t22) ∧ 
  Calls Try.prog n_enthymemeref01_mix #[.int .u64 s5, .int .u64 t22] w fun r_ w1 => ∃ t23 : Int, r_ = .returned (.int .u64 t23) ∧ 
  S7 label0 l1 t23 wv6 i7 w1 R
def KE_S6 (E : W.Env) (w : World) (R : W.Post) : Prop := W.asStr (W.Env.get? E 0) fun label0 => W.asSlice (W.Env.get? E 1) fun l1 => W.asInt .u64 (W.Env.get? E 5) fun s5 => W.asSlice (W.Env.get? E 6) fun wv6 => W.asInt .i64 (W.Env.get? E 7) fun i7 => S6 label0 l1 s5 wv6 i7 w R
theorem KE_S6_ok (R : W.Post) (E : W.Env) (w : World) (h : KE_S6 E w R) : W.WP Try.prog (W.cx 49) C12 (Q4 R) E w := by
  obtain ⟨label0, hq0, h1⟩ := W.asStr_elim h
  obtain ⟨l1, hq1, h2⟩ := W.asSlice_elim h1
  obtain ⟨s5, hq5, h3⟩ := W.asInt_elim h2
  obtain ⟨wv6, hq6, h4⟩ := W.asSlice_elim h3
  obtain ⟨i7, hq7, h5⟩ := W.asInt_elim h4
  exact fun a ha => W.WP.at (n := (W.cx 49)) (E := [(0, .string label0), (1, l1.v), (5, .int .u64 s5), (6, wv6.v), (7, .int .i64 i7)]) (W.WP.reg (c := C12) (fun E w => KE_S7 E w R) (by kernel_rfl) (Eq.mp (by kernel_rfl) h5) fun _ _ a hA hK => (KE_S7_ok R _ _ hK) a hA) (ha.cons hq0 (ha.cons hq1 (ha.cons hq5 (ha.cons hq6 (ha.cons hq7 ha.nil)))))
noncomputable def C13 : Code := W.Code.snd C8
noncomputable def C14 : Code := W.Code.snd C13
noncomputable def C15 : Code := W.Code.fst C14
noncomputable def C16 : Code := W.Code.snd C15
noncomputable def C17 : Code := W.Code.fst C16
noncomputable def C18 : Code := W.Code.fst C17
noncomputable def C19 : Code := W.Code.snd C14
abbrev Q5 (R : W.Post) : Exit → Act → World → Prop := (Exit.then (W.wpx Try.prog (W.cx 49) C19 (bodyPost Try.prog Try.f48 R)) (bodyPost Try.prog Try.f48 R))
abbrev Q6 (R : W.Post) : Exit → Act → World → Prop := (Exit.inBlock 2 (Q5 R))
/-- the head of the loop, ref.go:140 -/
def L11 (l1 : W.Sl) (s5 i8 : Int) (w : World) (R : W.Post) : Prop := W.LP Try.prog (W.cx 49) C18 (Q6 R) [(1, l1.v), (5, .int .u64 s5), (8, .int .i64 i8)] w
def KE_L11 (E : W.Env) (w : World) (R : W.Post) : Prop := W.asSlice (W.Env.get? E 1) fun l1 => W.asInt .u64 (W.Env.get? E 5) fun s5 => W.asInt .i64 (W.Env.get? E 8) fun i8 => L11 l1 s5 i8 w R
theorem KE_L11_ok (R : W.Post) (E : W.Env) (w : World) (h : KE_L11 E w R) : W.LP Try.prog (W.cx 49) C18 (Q6 R) E w := by
  obtain ⟨l1, hq1, h1⟩ := W.asSlice_elim h
  obtain ⟨s5, hq5, h2⟩ := W.asInt_elim h1
  obtain ⟨i8, hq8, h3⟩ := W.asInt_elim h2
  intro a ha
  exact h3 a (ha.cons hq1 (ha.cons hq5 (ha.cons hq8 ha.nil)))
noncomputable def C20 : Code := W.Code.snd C18
noncomputable def C21 : Code := W.Code.snd C20
abbrev Q7 (R : W.Post) : Exit → Act → World → Prop := (Exit.then (W.LoopWP Try.prog (W.cx 49) C18 (Q6 R)) (Q6 R))
/-- ref.go:140 -/
abbrev S14 (l1 : W.Sl) (s5 i8 : Int) (w : World) (R : W.Post) : Prop :=
  L11 l1 s5 (IntKind.wrap .i64 (i8 + 1)) w R
def KE_S14 (E : W.Env) (w : World) (R : W.Post) : Prop := W.asSlice (W.Env.get? E 1) fun l1 => W.asInt .u64 (W.Env.get? E 5) fun s5 => W.asInt .i64 (W.Env.get? E 8) fun i8 => S14 l1 s5 i8 w R
theorem KE_S14_ok (R : W.Post) (E : W.Env) (w : World) (h : KE_S14 E w R) : W.WP Try.prog (W.cx 49) C21 (Q7 R) E w := by
  obtain ⟨l1, hq1, h1⟩ := W.asSlice_elim h
  obtain ⟨s5, hq5, h2⟩ := W.asInt_elim h1
  obtain ⟨i8, hq8, h3⟩ := W.asInt_elim h2
  exact fun a ha => W.WP.at (n := (W.cx 49)) (E := [(1, l1.v), (5, .int .u64 s5), (8, .int .i64 i8)]) (W.WP.reg (c := C21) (fun E w => KE_L11 E w R) (by kernel_rfl) (Eq.mp (by kernel_rfl) h3) fun _ _ a hA hK => KE_L11_ok R _ _ hK a hA) (ha.cons hq1 (ha.cons hq5 (ha.cons hq8 ha.nil)))
noncomputable def C22 : Code := W.Code.fst C20
noncomputable def C23 : Code := W.Code.fst C22
abbrev Q8 (R : W.Post) : Exit → Act → World → Prop := (Exit.then (W.wpx Try.prog (W.cx 49) C21 (Exit.then (W.LoopWP Try.prog (W.cx 49) C18 (Q6 R)) (Q6 R))) (Exit.then (W.LoopWP Try.prog (W.cx 49) C18 (Q6 R)) (Q6 R)))
abbrev Q9 (R : W.Post) : Exit → Act → World → Prop := (Exit.inBlock 3 (Q8 R))
/-- ref.go:141 -/
abbrev S13 (l1 : W.Sl) (s5 i8 : Int) (w : World) (R : W.Post) : Prop :=
  (0 : Int) ≤ i8 ∧ i8 < ((l1.n : Nat) : Int) ∧ W.optP l1.a fun t43_p => ∃ t44 : Int, w.cell? (t43_p.add (Int.toNat i8 * 1)) = some (.int .i64 t44) ∧ 
  Calls Try.prog n_enthymemeref01_mix #[.int .u64 s5, .int .u64 (IntKind.wrap .u64 t44)] w fun r_ w1 => ∃ t46 : Int, r_ = .returned (.int .u64 t46) ∧ 
  S14 l1 t46 i8 w1 R
def KE_S13 (E : W.Env) (w : World) (R : W.Post) : Prop := W.asSlice (W.Env.get? E 1) fun l1 => W.asInt .u64 (W.Env.get? E 5) fun s5 => W.asInt .i64 (W.Env.get? E 8) fun i8 => S13 l1 s5 i8 w R
theorem KE_S13_ok (R : W.Post) (E : W.Env) (w : World) (h : KE_S13 E w R) : W.WP Try.prog (W.cx 49) C23 (Q9 R) E w := by
  obtain ⟨l1, hq1, h1⟩ := W.asSlice_elim h
  obtain ⟨s5, hq5, h2⟩ := W.asInt_elim h1
  obtain ⟨i8, hq8, h3⟩ := W.asInt_elim h2
  exact fun a ha => W.WP.at (n := (W.cx 49)) (E := [(1, l1.v), (5, .int .u64 s5), (8, .int .i64 i8)]) (W.WP.reg (c := C23) (fun E w => KE_S14 E w R) (by kernel_rfl) (Eq.mp (by kernel_rfl) h3) fun _ _ a hA hK => (KE_S14_ok R _ _ hK) a hA) (ha.cons hq1 (ha.cons hq5 (ha.cons hq8 ha.nil)))
abbrev Q10 (R : W.Post) : Exit → Act → World → Prop := (bodyPost Try.prog Try.f48 R)
noncomputable def C24 : Code := W.Code.fst C19
noncomputable def C25 : Code := W.Code.snd C19
/-- ref.go:143 -/
abbrev S15 (s5 : Int) (w : World) (R : W.Post) : Prop :=
  Calls Try.prog n_enthymemeref01_mix #[.int .u64 s5, .int .u64 0] w fun r_ w1 => ∃ t48 : Int, r_ = .returned (.int .u64 t48) ∧ 
  R (.returned (.int .u64 t48)) w1
def KE_S15 (E : W.Env) (w : World) (R : W.Post) : Prop := W.asInt .u64 (W.Env.get? E 5) fun s5 => S15 s5 w R
theorem KE_S15_ok (R : W.Post) (E : W.Env) (w : World) (h : KE_S15 E w R) : W.WP Try.prog (W.cx 49) C19 (Q10 R) E w := by
  obtain ⟨s5, hq5, h1⟩ := W.asInt_elim h
  exact fun a ha => W.WP.at (n := (W.cx 49)) (E := [(5, .int .u64 s5)]) (W.WP.seq (c := C19) (x := C24) (y := C25) (by kernel_rfl) <| W.WP.reg (c := C24) (fun E w => W.retVC Try.prog Try.f48 E w (fun v => R (.returned v) w)) (by kernel_rfl) (Eq.mp (by kernel_rfl) h1) fun _ _ a hA hK => (W.WP.ret (c := C25) (by kernel_rfl) fun a hA => W.retVC_sound hA hK) a hA) (ha.cons hq5 ha.nil)
noncomputable def C26 : Code := W.Code.fst C18
abbrev Q11 (R : W.Post) : Exit → Act → World → Prop := (Exit.then (W.wpx Try.prog (W.cx 49) C20 (Exit.then (W.LoopWP Try.prog (W.cx 49) C18 (Q6 R)) (Q6 R))) (Exit.then (W.LoopWP Try.prog (W.cx 49) C18 (Q6 R)) (Q6 R)))
noncomputable def C27 : Code := W.Code.fst C26
noncomputable def C28 : Code := W.Code.snd C26
noncomputable def C29 : Code := W.Code.fst C28
noncomputable def C30 : Code := W.Code.snd C28
/-- ref.go:140 -/
abbrev S12 (l1 : W.Sl) (s5 i8 : Int) (w : World) (R : W.Post) : Prop :=
  W.sel (decide (i8 < ((l1.n : Nat) : Int))) (S13 l1 s5 i8 w R) (S15 s5 w R)
def KE_S12 (E : W.Env) (w : World) (R : W.Post) : Prop := W.asSlice (W.Env.get? E 1) fun l1 => W.asInt .u64 (W.Env.get? E 5) fun s5 => W.asInt .i64 (W.Env.get? E 8) fun i8 => S12 l1 s5 i8 w R
theorem KE_S12_ok (R : W.Post) (E : W.Env) (w : World) (h : KE_S12 E w R) : W.WP Try.prog (W.cx 49) C26 (Q11 R) E w := by
  obtain ⟨l1, hq1, h1⟩ := W.asSlice_elim h
  obtain ⟨s5, hq5, h2⟩ := W.asInt_elim h1
  obtain ⟨i8, hq8, h3⟩ := W.asInt_elim h2
  exact fun a ha => W.WP.at (n := (W.cx 49)) (E := [(1, l1.v), (5, .int .u64 s5), (8, .int .i64 i8)]) (W.WP.seq (c := C26) (x := C27) (y := C28) (by kernel_rfl) <| W.WP.reg (c := C27) (fun E w => W.condK (W.Env.val E (.tmp 37)) (KE_S13 E w R) (KE_S15 E w R)) (by kernel_rfl) (Eq.mp (by kernel_rfl) h3) fun _ _ a hA hK => (W.WP.condK (c := C28) (x := C29) (y := C30) (o := .tmp 37) (by kernel_rfl) (fun hK => (W.WP.skip (c := C29) (by kernel_rfl) fun a hA => (W.WP.seq (c := C20) (x := C22) (y := C21) (by kernel_rfl) (W.WP.block (c := C22) (x := C23) (id := 3) (by kernel_rfl) (KE_S13_ok R _ _ hK))) a hA)) (fun hK => (W.WP.exit (c := C30) (id := 2) (by kernel_rfl) fun a hA => (KE_S15_ok R _ _ hK) a hA)) hK) a hA) (ha.cons hq1 (ha.cons hq5 (ha.cons hq8 ha.nil)))
theorem L11_step (l1 : W.Sl) (s5 i8 : Int) (w : World) (R : W.Post) (h : S12 l1 s5 i8 w R) : L11 l1 s5 i8 w R :=
  W.LP.step (n := (W.cx 49)) (c := C18) (E := [(1, l1.v), (5, .int .u64 s5), (8, .int .i64 i8)]) (w := w) (W.WP.seq (c := C18) (x := C26) (y := C20) (by kernel_rfl) (KE_S12_ok R _ _ (Eq.mp (by kernel_rfl) h)))
noncomputable def C31 : Code := W.Code.fst C15
/-- ref.go:140 -/
abbrev S10 (l1 : W.Sl) (s5 : Int) (w : World) (R : W.Post) : Prop :=
  L11 l1 s5 0 w R
def KE_S10 (E : W.Env) (w : World) (R : W.Post) : Prop := W.asSlice (W.Env.get? E 1) fun l1 => W.asInt .u64 (W.Env.get? E 5) fun s5 => S10 l1 s5 w R
theorem KE_S10_ok (R : W.Post) (E : W.Env) (w : World) (h : KE_S10 E w R) : W.WP Try.prog (W.cx 49) C15 (Q5 R) E w := by
  obtain ⟨l1, hq1, h1⟩ := W.asSlice_elim h
  obtain ⟨s5, hq5, h2⟩ := W.asInt_elim h1
  exact fun a ha => W.WP.at (n := (W.cx 49)) (E := [(1, l1.v), (5, .int .u64 s5)]) (W.WP.seq (c := C15) (x := C31) (y := C16) (by kernel_rfl) <| W.WP.reg (c := C31) (fun E w => KE_L11 E w R) (by kernel_rfl) (Eq.mp (by kernel_rfl) h2) fun _ _ a hA hK => (W.WP.block (c := C16) (x := C17) (id := 2) (by kernel_rfl) (W.WP.loop (c := C17) (x := C18) (by kernel_rfl) (KE_L11_ok R _ _ hK))) a hA) (ha.cons hq1 (ha.cons hq5 ha.nil))
noncomputable def C32 : Code := W.Code.fst C13
/-- ref.go:139 -/
abbrev S9 (l1 : W.Sl) (s5 : Int) (w : World) (R : W.Post) : Prop :=
  Calls Try.prog n_enthymemeref01_mix #[.int .u64 s5, .int .u64 (IntKind.wrap .u64 ((l1.n : Nat) : Int))] w fun r_ w1 => ∃ t33 : Int, r_ = .returned (.int .u64 t33) ∧ 
  S10 l1 t33 w1 R
def KE_S9 (E : W.Env) (w : World) (R : W.Post) : Prop := W.asSlice (W.Env.get? E 1) fun l1 => W.asInt .u64 (W.Env.get? E 5) fun s5 => S9 l1 s5 w R
theorem KE_S9_ok (R : W.Post) (E : W.Env) (w : World) (h : KE_S9 E w R) : W.WP Try.prog (W.cx 49) C13 (Q10 R) E w := by
  obtain ⟨l1, hq1, h1⟩ := W.asSlice_elim h
  obtain ⟨s5, hq5, h2⟩ := W.asInt_elim h1
  exact fun a ha => W.WP.at (n := (W.cx 49)) (E := [(1, l1.v), (5, .int .u64 s5)]) (W.WP.seq (c := C13) (x := C32) (y := C14) (by kernel_rfl) <| W.WP.reg (c := C32) (fun E w => KE_S10 E w R) (by kernel_rfl) (Eq.mp (by kernel_rfl) h2) fun _ _ a hA hK => (W.WP.seq (c := C14) (x := C15) (y := C19) (by kernel_rfl) (KE_S10_ok R _ _ hK)) a hA) (ha.cons hq1 (ha.cons hq5 ha.nil))
noncomputable def C33 : Code := W.Code.fst C8
/-- ref.go:138 -/
abbrev S8 (label0 : ByteArray) (l1 : W.Sl) (s5 : Int) (w : World) (R : W.Post) : Prop :=
  Calls Try.prog n_enthymemeref01_mix #[.int .u64 s5, .int .u64 (IntKind.wrap .u64 ((label0.size : Nat) : Int))] w fun r_ w1 => ∃ t28 : Int, r_ = .returned (.int .u64 t28) ∧ 
  S9 l1 t28 w1 R
def KE_S8 (E : W.Env) (w : World) (R : W.Post) : Prop := W.asStr (W.Env.get? E 0) fun label0 => W.asSlice (W.Env.get? E 1) fun l1 => W.asInt .u64 (W.Env.get? E 5) fun s5 => S8 label0 l1 s5 w R
theorem KE_S8_ok (R : W.Post) (E : W.Env) (w : World) (h : KE_S8 E w R) : W.WP Try.prog (W.cx 49) C8 (Q10 R) E w := by
  obtain ⟨label0, hq0, h1⟩ := W.asStr_elim h
  obtain ⟨l1, hq1, h2⟩ := W.asSlice_elim h1
  obtain ⟨s5, hq5, h3⟩ := W.asInt_elim h2
  exact fun a ha => W.WP.at (n := (W.cx 49)) (E := [(0, .string label0), (1, l1.v), (5, .int .u64 s5)]) (W.WP.seq (c := C8) (x := C33) (y := C13) (by kernel_rfl) <| W.WP.reg (c := C33) (fun E w => KE_S9 E w R) (by kernel_rfl) (Eq.mp (by kernel_rfl) h3) fun _ _ a hA hK => (KE_S9_ok R _ _ hK) a hA) (ha.cons hq0 (ha.cons hq1 (ha.cons hq5 ha.nil)))
noncomputable def C34 : Code := W.Code.fst C7
abbrev Q12 (R : W.Post) : Exit → Act → World → Prop := (Exit.then (W.wpx Try.prog (W.cx 49) C9 (Exit.then (W.LoopWP Try.prog (W.cx 49) C7 (Q1 R)) (Q1 R))) (Exit.then (W.LoopWP Try.prog (W.cx 49) C7 (Q1 R)) (Q1 R)))
noncomputable def C35 : Code := W.Code.fst C34
noncomputable def C36 : Code := W.Code.snd C34
noncomputable def C37 : Code := W.Code.fst C36
noncomputable def C38 : Code := W.Code.snd C36
/-- ref.go:135 -/
abbrev S5 (label0 : ByteArray) (l1 : W.Sl) (s5 : Int) (wv6 : W.Sl) (i7 : Int) (w : World) (R : W.Post) : Prop :=
  W.sel (decide (i7 < ((wv6.n : Nat) : Int))) (S6 label0 l1 s5 wv6 i7 w R) (S8 label0 l1 s5 w R)
def KE_S5 (E : W.Env) (w : World) (R : W.Post) : Prop := W.asStr (W.Env.get? E 0) fun label0 => W.asSlice (W.Env.get? E 1) fun l1 => W.asInt .u64 (W.Env.get? E 5) fun s5 => W.asSlice (W.Env.get? E 6) fun wv6 => W.asInt .i64 (W.Env.get? E 7) fun i7 => S5 label0 l1 s5 wv6 i7 w R
theorem KE_S5_ok (R : W.Post) (E : W.Env) (w : World) (h : KE_S5 E w R) : W.WP Try.prog (W.cx 49) C34 (Q12 R) E w := by
  obtain ⟨label0, hq0, h1⟩ := W.asStr_elim h
  obtain ⟨l1, hq1, h2⟩ := W.asSlice_elim h1
  obtain ⟨s5, hq5, h3⟩ := W.asInt_elim h2
  obtain ⟨wv6, hq6, h4⟩ := W.asSlice_elim h3
  obtain ⟨i7, hq7, h5⟩ := W.asInt_elim h4
  exact fun a ha => W.WP.at (n := (W.cx 49)) (E := [(0, .string label0), (1, l1.v), (5, .int .u64 s5), (6, wv6.v), (7, .int .i64 i7)]) (W.WP.seq (c := C34) (x := C35) (y := C36) (by kernel_rfl) <| W.WP.reg (c := C35) (fun E w => W.condK (W.Env.val E (.tmp 15)) (KE_S6 E w R) (KE_S8 E w R)) (by kernel_rfl) (Eq.mp (by kernel_rfl) h5) fun _ _ a hA hK => (W.WP.condK (c := C36) (x := C37) (y := C38) (o := .tmp 15) (by kernel_rfl) (fun hK => (W.WP.skip (c := C37) (by kernel_rfl) fun a hA => (W.WP.seq (c := C9) (x := C11) (y := C10) (by kernel_rfl) (W.WP.block (c := C11) (x := C12) (id := 1) (by kernel_rfl) (KE_S6_ok R _ _ hK))) a hA)) (fun hK => (W.WP.exit (c := C38) (id := 0) (by kernel_rfl) fun a hA => (KE_S8_ok R _ _ hK) a hA)) hK) a hA) (ha.cons hq0 (ha.cons hq1 (ha.cons hq5 (ha.cons hq6 (ha.cons hq7 ha.nil)))))
theorem L4_step (label0 : ByteArray) (l1 : W.Sl) (s5 : Int) (wv6 : W.Sl) (i7 : Int) (w : World) (R : W.Post) (h : S5 label0 l1 s5 wv6 i7 w R) : L4 label0 l1 s5 wv6 i7 w R :=
  W.LP.step (n := (W.cx 49)) (c := C7) (E := [(0, .string label0), (1, l1.v), (5, .int .u64 s5), (6, wv6.v), (7, .int .i64 i7)]) (w := w) (W.WP.seq (c := C7) (x := C34) (y := C9) (by kernel_rfl) (KE_S5_ok R _ _ (Eq.mp (by kernel_rfl) h)))
noncomputable def C39 : Code := W.Code.fst C4
/-- ref.go:135 -/
abbrev S3 (label0 : ByteArray) (l1 : W.Sl) (s5 : Int) (wv6 : W.Sl) (w : World) (R : W.Post) : Prop :=
  L4 label0 l1 s5 wv6 0 w R
def KE_S3 (E : W.Env) (w : World) (R : W.Post) : Prop := W.asStr (W.Env.get? E 0) fun label0 => W.asSlice (W.Env.get? E 1) fun l1 => W.asInt .u64 (W.Env.get? E 5) fun s5 => W.asSlice (W.Env.get? E 6) fun wv6 => S3 label0 l1 s5 wv6 w R
theorem KE_S3_ok (R : W.Post) (E : W.Env) (w : World) (h : KE_S3 E w R) : W.WP Try.prog (W.cx 49) C4 (Q0 R) E w := by
  obtain ⟨label0, hq0, h1⟩ := W.asStr_elim h
  obtain ⟨l1, hq1, h2⟩ := W.asSlice_elim h1
  obtain ⟨s5, hq5, h3⟩ := W.asInt_elim h2
  obtain ⟨wv6, hq6, h4⟩ := W.asSlice_elim h3
  exact fun a ha => W.WP.at (n := (W.cx 49)) (E := [(0, .string label0), (1, l1.v), (5, .int .u64 s5), (6, wv6.v)]) (W.WP.seq (c := C4) (x := C39) (y := C5) (by kernel_rfl) <| W.WP.reg (c := C39) (fun E w => KE_L4 E w R) (by kernel_rfl) (Eq.mp (by kernel_rfl) h4) fun _ _ a hA hK => (W.WP.block (c := C5) (x := C6) (id := 0) (by kernel_rfl) (W.WP.loop (c := C6) (x := C7) (by kernel_rfl) (KE_L4_ok R _ _ hK))) a hA) (ha.cons hq0 (ha.cons hq1 (ha.cons hq5 (ha.cons hq6 ha.nil))))
noncomputable def C40 : Code := W.Code.fst C2
/-- ref.go:134 -/
abbrev S2 (label0 : ByteArray) (l1 : W.Sl) (s5 : Int) (w : World) (R : W.Post) : Prop :=
  ∃ (t10 : W.Sl) (w1 : World), Sem.run Try.prog (Go.convert ty_string ty_sl_uint8 (.string label0)) w = .ok (t10.v) w1 ∧ Calls Try.prog n_enthymemeref01_Words #[t10.v] w1 fun r_ w2 => ∃ t11 : W.Sl, r_ = .returned (t11.v) ∧ 
  S3 label0 l1 s5 t11 w2 R
def KE_S2 (E : W.Env) (w : World) (R : W.Post) : Prop := W.asStr (W.Env.get? E 0) fun label0 => W.asSlice (W.Env.get? E 1) fun l1 => W.asInt .u64 (W.Env.get? E 5) fun s5 => S2 label0 l1 s5 w R
theorem KE_S2_ok (R : W.Post) (E : W.Env) (w : World) (h : KE_S2 E w R) : W.WP Try.prog (W.cx 49) C2 (Q10 R) E w := by
  obtain ⟨label0, hq0, h1⟩ := W.asStr_elim h
  obtain ⟨l1, hq1, h2⟩ := W.asSlice_elim h1
  obtain ⟨s5, hq5, h3⟩ := W.asInt_elim h2
  exact fun a ha => W.WP.at (n := (W.cx 49)) (E := [(0, .string label0), (1, l1.v), (5, .int .u64 s5)]) (W.WP.seq (c := C2) (x := C40) (y := C3) (by kernel_rfl) <| W.WP.reg (c := C40) (fun E w => KE_S3 E w R) (by kernel_rfl) (Eq.mp (by kernel_rfl) h3) fun _ _ a hA hK => (W.WP.seq (c := C3) (x := C4) (y := C8) (by kernel_rfl) (KE_S3_ok R _ _ hK)) a hA) (ha.cons hq0 (ha.cons hq1 (ha.cons hq5 ha.nil)))
noncomputable def C41 : Code := W.Code.fst C1
/-- ref.go:133 -/
abbrev S1 (label0 : ByteArray) (l1 : W.Sl) (w : World) (R : W.Post) : Prop :=
  S2 label0 l1 0 w R
def KE_S1 (E : W.Env) (w : World) (R : W.Post) : Prop := W.asStr (W.Env.get? E 0) fun label0 => W.asSlice (W.Env.get? E 1) fun l1 => S1 label0 l1 w R
theorem KE_S1_ok (R : W.Post) (E : W.Env) (w : World) (h : KE_S1 E w R) : W.WP Try.prog (W.cx 49) C1 (Q10 R) E w := by
  obtain ⟨label0, hq0, h1⟩ := W.asStr_elim h
  obtain ⟨l1, hq1, h2⟩ := W.asSlice_elim h1
  exact fun a ha => W.WP.at (n := (W.cx 49)) (E := [(0, .string label0), (1, l1.v)]) (W.WP.seq (c := C1) (x := C41) (y := C2) (by kernel_rfl) <| W.WP.reg (c := C41) (fun E w => KE_S2 E w R) (by kernel_rfl) (Eq.mp (by kernel_rfl) h2) fun _ _ a hA hK => (KE_S2_ok R _ _ hK) a hA) (ha.cons hq0 (ha.cons hq1 ha.nil))
noncomputable def C42 : Code := W.Code.fst C0
/-- ref.go:132 -/
abbrev S0 (label0 : ByteArray) (l1 : W.Sl) (w : World) (R : W.Post) : Prop :=
  S1 label0 l1 w R
def KE_S0 (E : W.Env) (w : World) (R : W.Post) : Prop := W.asStr (W.Env.get? E 0) fun label0 => W.asSlice (W.Env.get? E 1) fun l1 => S0 label0 l1 w R
theorem KE_S0_ok (R : W.Post) (E : W.Env) (w : World) (h : KE_S0 E w R) : W.WP Try.prog (W.cx 49) C0 (Q10 R) E w := by
  obtain ⟨label0, hq0, h1⟩ := W.asStr_elim h
  obtain ⟨l1, hq1, h2⟩ := W.asSlice_elim h1
  exact fun a ha => W.WP.at (n := (W.cx 49)) (E := [(0, .string label0), (1, l1.v)]) (W.WP.seq (c := C0) (x := C42) (y := C1) (by kernel_rfl) <| W.WP.reg (c := C42) (fun E w => KE_S1 E w R) (by kernel_rfl) (Eq.mp (by kernel_rfl) h2) fun _ _ a hA hK => (KE_S1_ok R _ _ hK) a hA) (ha.cons hq0 (ha.cons hq1 ha.nil))
/-- enthymeme/enthymemeref01.Sum -/
theorem ok (label0 : ByteArray) (l1 : W.Sl) (w : World) (R : W.Post) (h : S0 label0 l1 w R) : Calls Try.prog n_enthymemeref01_Sum #[.string label0, l1.v] w R :=
  W.calls_of_WP' (fn := Try.f48) (c := C0) (args := [.string label0, l1.v]) (by kernel_rfl) (by kernel_rfl) (by kernel_rfl) (KE_S0_ok R _ _ (Eq.mp (by kernel_rfl) h))
end enthymemeref01_Sum
namespace enthymemeref01_Bytes
noncomputable def C0 : Code := (Try.f30.body).getD .skip
noncomputable def C1 : Code := W.Code.snd C0
noncomputable def C2 : Code := W.Code.snd C1
noncomputable def C3 : Code := W.Code.snd C2
noncomputable def C4 : Code := W.Code.fst C3
noncomputable def C5 : Code := W.Code.snd C4
noncomputable def C6 : Code := W.Code.fst C5
noncomputable def C7 : Code := W.Code.fst C6
noncomputable def C8 : Code := W.Code.snd C3
abbrev Q0 (R : W.Post) : Exit → Act → World → Prop := (Exit.then (W.wpx Try.prog (W.cx 31) C8 (bodyPost Try.prog Try.f30 R)) (bodyPost Try.prog Try.f30 R))
abbrev Q1 (R : W.Post) : Exit → Act → World → Prop := (Exit.inBlock 0 (Q0 R))
/-- the head of the loop, ref.go:150 -/
def L4 (label0 : ByteArray) (b1 wv5 l6 : W.Sl) (i7 : Int) (w : World) (R : W.Post) : Prop := W.LP Try.prog (W.cx 31) C7 (Q1 R) [(0, .string label0), (1, b1.v), (5, wv5.v), (6, l6.v), (7, .int .i64 i7)] w
def KE_L4 (E : W.Env) (w : World) (R : W.Post) : Prop := W.asStr (W.Env.get? E 0) fun label0 => W.asSlice (W.Env.get? E 1) fun b1 => W.asSlice (W.Env.get? E 5) fun wv5 => W.asSlice (W.Env.get? E 6) fun l6 => W.asInt .i64 (W.Env.get? E 7) fun i7 => L4 label0 b1 wv5 l6 i7 w R
theorem KE_L4_ok (R : W.Post) (E : W.Env) (w : World) (h : KE_L4 E w R) : W.LP Try.prog (W.cx 31) C7 (Q1 R) E w := by
  obtain ⟨label0, hq0, h1⟩ := W.asStr_elim h
  obtain ⟨b1, hq1, h2⟩ := W.asSlice_elim h1
  obtain ⟨wv5, hq5, h3⟩ := W.asSlice_elim h2
  obtain ⟨l6, hq6, h4⟩ := W.asSlice_elim h3
  obtain ⟨i7, hq7, h5⟩ := W.asInt_elim h4
  intro a ha
  exact h5 a (ha.cons hq0 (ha.cons hq1 (ha.cons hq5 (ha.cons hq6 (ha.cons hq7 ha.nil)))))
noncomputable def C9 : Code := W.Code.snd C7
noncomputable def C10 : Code := W.Code.snd C9
abbrev Q2 (R : W.Post) : Exit → Act → World → Prop := (Exit.then (W.LoopWP Try.prog (W.cx 31) C7 (Q1 R)) (Q1 R))
/-- ref.go:150 -/
abbrev S7 (label0 : ByteArray) (b1 wv5 l6 : W.Sl) (i7 : Int) (w : World) (R : W.Post) : Prop :=
  L4 label0 b1 wv5 l6 (IntKind.wrap .i64 (i7 + 1)) w R
def KE_S7 (E : W.Env) (w : World) (R : W.Post) : Prop := W.asStr (W.Env.get? E 0) fun label0 => W.asSlice (W.Env.get? E 1) fun b1 => W.asSlice (W.Env.get? E 5) fun wv5 => W.asSlice (W.Env.get? E 6) fun l6 => W.asInt .i64 (W.Env.get? E 7) fun i7 => S7 label0 b1 wv5 l6 i7 w R
theorem KE_S7_ok (R : W.Post) (E : W.Env) (w : World) (h : KE_S7 E w R) : W.WP Try.prog (W.cx 31) C10 (Q2 R) E w := by
  obtain ⟨label0, hq0, h1⟩ := W.asStr_elim h
  obtain ⟨b1, hq1, h2⟩ := W.asSlice_elim h1
  obtain ⟨wv5, hq5, h3⟩ := W.asSlice_elim h2
  obtain ⟨l6, hq6, h4⟩ := W.asSlice_elim h3
  obtain ⟨i7, hq7, h5⟩ := W.asInt_elim h4
  exact fun a ha => W.WP.at (n := (W.cx 31)) (E := [(0, .string label0), (1, b1.v), (5, wv5.v), (6, l6.v), (7, .int .i64 i7)]) (W.WP.reg (c := C10) (fun E w => KE_L4 E w R) (by kernel_rfl) (Eq.mp (by kernel_rfl) h5) fun _ _ a hA hK => KE_L4_ok R _ _ hK a hA) (ha.cons hq0 (ha.cons hq1 (ha.cons hq5 (ha.cons hq6 (ha.cons hq7 ha.nil)))))
noncomputable def C11 : Code := W.Code.fst C9
noncomputable def C12 : Code := W.Code.fst C11
abbrev Q3 (R : W.Post) : Exit → Act → World → Prop := (Exit.then (W.wpx Try.prog (W.cx 31) C10 (Exit.then (W.LoopWP Try.prog (W.cx 31) C7 (Q1 R)) (Q1 R))) (Exit.then (W.LoopWP Try.prog (W.cx 31) C7 (Q1 R)) (Q1 R)))
abbrev Q4 (R : W.Post) : Exit → Act → World → Prop := (Exit.inBlock 1 (Q3 R))
/-- ref.go:151 -/
abbrev S6 (label0 : ByteArray) (b1 wv5 l6 : W.Sl) (i7 : Int) (w : World) (R : W.Post) : Prop :=
  (0 : Int) ≤ i7 ∧ i7 < ((wv5.n : Nat) : Int) ∧ W.optP wv5.a fun t19_p => ∃ t20 : Int, w.cell? (t19_p.add (Int.toNat i7 * 1)) = some (.int .u64 t20) ∧ 
  let w1 := w.alloc (.cells #[.int .i64 (IntKind.wrap .i64 t20)] ty_int)
  ∃ (t23 : W.Sl) (w2 : World), Sem.run Try.prog (Builtin.append_ #[ty_sl_int, ty_sl_int] ty_sl_int #[l6.v, .slice (some (Addr.mk w.heap.size 0 none)) 1 1]) w1 = .ok (t23.v) w2 ∧ S7 label0 b1 wv5 t23 i7 w2 R
def KE_S6 (E : W.Env) (w : World) (R : W.Post) : Prop := W.asStr (W.Env.get? E 0) fun label0 => W.asSlice (W.Env.get? E 1) fun b1 => W.asSlice (W.Env.get? E 5) fun wv5 => W.asSlice (W.Env.get? E 6) fun l6 => W.asInt .i64 (W.Env.get? E 7) fun i7 => S6 label0 b1 wv5 l6 i7 w R
theorem KE_S6_ok (R : W.Post) (E : W.Env) (w : World) (h : KE_S6 E w R) : W.WP Try.prog (W.cx 31) C12 (Q4 R) E w := by
  obtain ⟨label0, hq0, h1⟩ := W.asStr_elim h
  obtain ⟨b1, hq1, h2⟩ := W.asSlice_elim h1
  obtain ⟨wv5, hq5, h3⟩ := W.asSlice_elim h2
  obtain ⟨l6, hq6, h4⟩ := W.asSlice_elim h3
  obtain ⟨i7, hq7, h5⟩ := W.asInt_elim h4
  exact fun a ha => W.WP.at (n := (W.cx 31)) (E := [(0, .string label0), (1, b1.v), (5, wv5.v), (6, l6.v), (7, .int .i64 i7)]) (W.WP.reg (c := C12) (fun E w => KE_S7 E w R) (by kernel_rfl) (Eq.mp (by kernel_rfl) h5) fun _ _ a hA hK => (KE_S7_ok R _ _ hK) a hA) (ha.cons hq0 (ha.cons hq1 (ha.cons hq5 (ha.cons hq6 (ha.cons hq7 ha.nil)))))
abbrev Q5 (R : W.Post) : Exit → Act → World → Prop := (bodyPost Try.prog Try.f30 R)
noncomputable def C13 : Code := W.Code.fst C8
noncomputable def C14 : Code := W.Code.snd C8
/-- ref.go:153 -/
abbrev S8 (label0 : ByteArray) (b1 l6 : W.Sl) (w : World) (R : W.Post) : Prop :=
  let w1 := w.alloc (.cells #[.int .i64 ((b1.n : Nat) : Int)] ty_int)
  ∃ (t29 : W.Sl) (w2 : World), Sem.run Try.prog (Builtin.append_ #[ty_sl_int, ty_sl_int] ty_sl_int #[l6.v, .slice (some (Addr.mk w.heap.size 0 none)) 1 1]) w1 = .ok (t29.v) w2 ∧ Calls Try.prog n_enthymemeref01_Sum #[.string label0, t29.v] w2 fun r_ w3 => ∃ t30 : Int, r_ = .returned (.int .u64 t30) ∧ 
  R (.returned (.int .u64 t30)) w3
def KE_S8 (E : W.Env) (w : World) (R : W.Post) : Prop := W.asStr (W.Env.get? E 0) fun label0 => W.asSlice (W.Env.get? E 1) fun b1 => W.asSlice (W.Env.get? E 6) fun l6 => S8 label0 b1 l6 w R
theorem KE_S8_ok (R : W.Post) (E : W.Env) (w : World) (h : KE_S8 E w R) : W.WP Try.prog (W.cx 31) C8 (Q5 R) E w := by
  obtain ⟨label0, hq0, h1⟩ := W.asStr_elim h
  obtain ⟨b1, hq1, h2⟩ := W.asSlice_elim h1
  obtain ⟨l6, hq6, h3⟩ := W.asSlice_elim h2
  exact fun a ha => W.WP.at (n := (W.cx 31)) (E := [(0, .string label0), (1, b1.v), (6, l6.v)]) (W.WP.seq (c := C8) (x := C13) (y := C14) (by kernel_rfl) <| W.WP.reg (c := C13) (fun E w => W.retVC Try.prog Try.f30 E w (fun v => R (.returned v) w)) (by kernel_rfl) (Eq.mp (by kernel_rfl) h3) fun _ _ a hA hK => (W.WP.ret (c := C14) (by kernel_rfl) fun a hA => W.retVC_sound hA hK) a hA) (ha.cons hq0 (ha.cons hq1 (ha.cons hq6 ha.nil)))
noncomputable def C15 : Code := W.Code.fst C7
abbrev Q6 (R : W.Post) : Exit → Act → World → Prop := (Exit.then (W.wpx Try.prog (W.cx 31) C9 (Exit.then (W.LoopWP Try.prog (W.cx 31) C7 (Q1 R)) (Q1 R))) (Exit.then (W.LoopWP Try.prog (W.cx 31) C7 (Q1 R)) (Q1 R)))
noncomputable def C16 : Code := W.Code.fst C15
noncomputable def C17 : Code := W.Code.snd C15
noncomputable def C18 : Code := W.Code.fst C17
noncomputable def C19 : Code := W.Code.snd C17
/-- ref.go:150 -/
abbrev S5 (label0 : ByteArray) (b1 wv5 l6 : W.Sl) (i7 : Int) (w : World) (R : W.Post) : Prop :=
  W.sel (decide (i7 < ((wv5.n : Nat) : Int))) (S6 label0 b1 wv5 l6 i7 w R) (S8 label0 b1 l6 w R)
def KE_S5 (E : W.Env) (w : World) (R : W.Post) : Prop := W.asStr (W.Env.get? E 0) fun label0 => W.asSlice (W.Env.get? E 1) fun b1 => W.asSlice (W.Env.get? E 5) fun wv5 => W.asSlice (W.Env.get? E 6) fun l6 => W.asInt .i64 (W.Env.get? E 7) fun i7 => S5 label0 b1 wv5 l6 i7 w R
theorem KE_S5_ok (R : W.Post) (E : W.Env) (w : World) (h : KE_S5 E w R) : W.WP Try.prog (W.cx 31) C15 (Q6 R) E w := by
  obtain ⟨label0, hq0, h1⟩ := W.asStr_elim h
  obtain ⟨b1, hq1, h2⟩ := W.asSlice_elim h1
  obtain ⟨wv5, hq5, h3⟩ := W.asSlice_elim h2
  obtain ⟨l6, hq6, h4⟩ := W.asSlice_elim h3
  obtain ⟨i7, hq7, h5⟩ := W.asInt_elim h4
  exact fun a ha => W.WP.at (n := (W.cx 31)) (E := [(0, .string label0), (1, b1.v), (5, wv5.v), (6, l6.v), (7, .int .i64 i7)]) (W.WP.seq (c := C15) (x := C16) (y := C17) (by kernel_rfl) <| W.WP.reg (c := C16) (fun E w => W.condK (W.Env.val E (.tmp 13)) (KE_S6 E w R) (KE_S8 E w R)) (by kernel_rfl) (Eq.mp (by kernel_rfl) h5) fun _ _ a hA hK => (W.WP.condK (c := C17) (x := C18) (y := C19) (o := .tmp 13) (by kernel_rfl) (fun hK => (W.WP.skip (c := C18) (by kernel_rfl) fun a hA => (W.WP.seq (c := C9) (x := C11) (y := C10) (by kernel_rfl) (W.WP.block (c := C11) (x := C12) (id := 1) (by kernel_rfl) (KE_S6_ok R _ _ hK))) a hA)) (fun hK => (W.WP.exit (c := C19) (id := 0) (by kernel_rfl) fun a hA => (KE_S8_ok R _ _ hK) a hA)) hK) a hA) (ha.cons hq0 (ha.cons hq1 (ha.cons hq5 (ha.cons hq6 (ha.cons hq7 ha.nil)))))
theorem L4_step (label0 : ByteArray) (b1 wv5 l6 : W.Sl) (i7 : Int) (w : World) (R : W.Post) (h : S5 label0 b1 wv5 l6 i7 w R) : L4 label0 b1 wv5 l6 i7 w R :=
  W.LP.step (n := (W.cx 31)) (c := C7) (E := [(0, .string label0), (1, b1.v), (5, wv5.v), (6, l6.v), (7, .int .i64 i7)]) (w := w) (W.WP.seq (c := C7) (x := C15) (y := C9) (by kernel_rfl) (KE_S5_ok R _ _ (Eq.mp (by kernel_rfl) h)))
noncomputable def C20 : Code := W.Code.fst C4
/-- ref.go:150 -/
abbrev S3 (label0 : ByteArray) (b1 wv5 l6 : W.Sl) (w : World) (R : W.Post) : Prop :=
  L4 label0 b1 wv5 l6 0 w R
def KE_S3 (E : W.Env) (w : World) (R : W.Post) : Prop := W.asStr (W.Env.get? E 0) fun label0 => W.asSlice (W.Env.get? E 1) fun b1 => W.asSlice (W.Env.get? E 5) fun wv5 => W.asSlice (W.Env.get? E 6) fun l6 => S3 label0 b1 wv5 l6 w R
theorem KE_S3_ok (R : W.Post) (E : W.Env) (w : World) (h : KE_S3 E w R) : W.WP Try.prog (W.cx 31) C4 (Q0 R) E w := by
  obtain ⟨label0, hq0, h1⟩ := W.asStr_elim h
  obtain ⟨b1, hq1, h2⟩ := W.asSlice_elim h1
  obtain ⟨wv5, hq5, h3⟩ := W.asSlice_elim h2
  obtain ⟨l6, hq6, h4⟩ := W.asSlice_elim h3
  exact fun a ha => W.WP.at (n := (W.cx 31)) (E := [(0, .string label0), (1, b1.v), (5, wv5.v), (6, l6.v)]) (W.WP.seq (c := C4) (x := C20) (y := C5) (by kernel_rfl) <| W.WP.reg (c := C20) (fun E w => KE_L4 E w R) (by kernel_rfl) (Eq.mp (by kernel_rfl) h4) fun _ _ a hA hK => (W.WP.block (c := C5) (x := C6) (id := 0) (by kernel_rfl) (W.WP.loop (c := C6) (x := C7) (by kernel_rfl) (KE_L4_ok R _ _ hK))) a hA) (ha.cons hq0 (ha.cons hq1 (ha.cons hq5 (ha.cons hq6 ha.nil))))
noncomputable def C21 : Code := W.Code.fst C2
/-- ref.go:149 -/
abbrev S2 (label0 : ByteArray) (b1 wv5 : W.Sl) (w : World) (R : W.Post) : Prop :=
  S3 label0 b1 wv5 ⟨none, 0, 0⟩ w R
def KE_S2 (E : W.Env) (w : World) (R : W.Post) : Prop := W.asStr (W.Env.get? E 0) fun label0 => W.asSlice (W.Env.get? E 1) fun b1 => W.asSlice (W.Env.get? E 5) fun wv5 => S2 label0 b1 wv5 w R
theorem KE_S2_ok (R : W.Post) (E : W.Env) (w : World) (h : KE_S2 E w R) : W.WP Try.prog (W.cx 31) C2 (Q5 R) E w := by
  obtain ⟨label0, hq0, h1⟩ := W.asStr_elim h
  obtain ⟨b1, hq1, h2⟩ := W.asSlice_elim h1
  obtain ⟨wv5, hq5, h3⟩ := W.asSlice_elim h2
  exact fun a ha => W.WP.at (n := (W.cx 31)) (E := [(0, .string label0), (1, b1.v), (5, wv5.v)]) (W.WP.seq (c := C2) (x := C21) (y := C3) (by kernel_rfl) <| W.WP.reg (c := C21) (fun E w => KE_S3 E w R) (by kernel_rfl) (Eq.mp (by kernel_rfl) h3) fun _ _ a hA hK => (W.WP.seq (c := C3) (x := C4) (y := C8) (by kernel_rfl) (KE_S3_ok R _ _ hK)) a hA) (ha.cons hq0 (ha.cons hq1 (ha.cons hq5 ha.nil)))
noncomputable def C22 : Code := W.Code.fst C1
/-- ref.go:148 -/
abbrev S1 (label0 : ByteArray) (b1 : W.Sl) (w : World) (R : W.Post) : Prop :=
  Calls Try.prog n_enthymemeref01_Words #[b1.v] w fun r_ w1 => ∃ t9 : W.Sl, r_ = .returned (t9.v) ∧ 
  S2 label0 b1 t9 w1 R
def KE_S1 (E : W.Env) (w : World) (R : W.Post) : Prop := W.asStr (W.Env.get? E 0) fun label0 => W.asSlice (W.Env.get? E 1) fun b1 => S1 label0 b1 w R
theorem KE_S1_ok (R : W.Post) (E : W.Env) (w : World) (h : KE_S1 E w R) : W.WP Try.prog (W.cx 31) C1 (Q5 R) E w := by
  obtain ⟨label0, hq0, h1⟩ := W.asStr_elim h
  obtain ⟨b1, hq1, h2⟩ := W.asSlice_elim h1
  exact fun a ha => W.WP.at (n := (W.cx 31)) (E := [(0, .string label0), (1, b1.v)]) (W.WP.seq (c := C1) (x := C22) (y := C2) (by kernel_rfl) <| W.WP.reg (c := C22) (fun E w => KE_S2 E w R) (by kernel_rfl) (Eq.mp (by kernel_rfl) h2) fun _ _ a hA hK => (KE_S2_ok R _ _ hK) a hA) (ha.cons hq0 (ha.cons hq1 ha.nil))
noncomputable def C23 : Code := W.Code.fst C0
/-- ref.go:147 -/
abbrev S0 (label0 : ByteArray) (b1 : W.Sl) (w : World) (R : W.Post) : Prop :=
  S1 label0 b1 w R
def KE_S0 (E : W.Env) (w : World) (R : W.Post) : Prop := W.asStr (W.Env.get? E 0) fun label0 => W.asSlice (W.Env.get? E 1) fun b1 => S0 label0 b1 w R
theorem KE_S0_ok (R : W.Post) (E : W.Env) (w : World) (h : KE_S0 E w R) : W.WP Try.prog (W.cx 31) C0 (Q5 R) E w := by
  obtain ⟨label0, hq0, h1⟩ := W.asStr_elim h
  obtain ⟨b1, hq1, h2⟩ := W.asSlice_elim h1
  exact fun a ha => W.WP.at (n := (W.cx 31)) (E := [(0, .string label0), (1, b1.v)]) (W.WP.seq (c := C0) (x := C23) (y := C1) (by kernel_rfl) <| W.WP.reg (c := C23) (fun E w => KE_S1 E w R) (by kernel_rfl) (Eq.mp (by kernel_rfl) h2) fun _ _ a hA hK => (KE_S1_ok R _ _ hK) a hA) (ha.cons hq0 (ha.cons hq1 ha.nil))
/-- enthymeme/enthymemeref01.Bytes -/
theorem ok (label0 : ByteArray) (b1 : W.Sl) (w : World) (R : W.Post) (h : S0 label0 b1 w R) : Calls Try.prog n_enthymemeref01_Bytes #[.string label0, b1.v] w R :=
  W.calls_of_WP' (fn := Try.f30) (c := C0) (args := [.string label0, b1.v]) (by kernel_rfl) (by kernel_rfl) (by kernel_rfl) (KE_S0_ok R _ _ (Eq.mp (by kernel_rfl) h))
end enthymemeref01_Bytes
end Go.Proofs.Ytpfomlenbhocpaa
