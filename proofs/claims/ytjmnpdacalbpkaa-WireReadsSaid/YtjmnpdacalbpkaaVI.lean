/- Printed by a program of ours (vcgen.py) from the dump: the conditions of the functions, and that they suffice. -/
import Derived.Test.YtjmnpdacalbpkaaV
set_option linter.unusedVariables false
set_option maxRecDepth 100000
namespace Go.Proofs.Ytjmnpdacalbpkaa
open Go
namespace enthymemelaw02_WireOne
noncomputable def C0 : Code := (Try.f9.body).getD .skip
noncomputable def C1 : Code := W.Code.snd C0
noncomputable def C2 : Code := W.Code.snd C1
noncomputable def C3 : Code := W.Code.snd C2
noncomputable def C4 : Code := W.Code.snd C3
noncomputable def C5 : Code := W.Code.snd C4
noncomputable def C6 : Code := W.Code.fst C5
noncomputable def C7 : Code := W.Code.snd C6
noncomputable def C8 : Code := W.Code.fst C7
noncomputable def C9 : Code := W.Code.snd C5
abbrev Q0 (R : W.Post) : Exit → Act → World → Prop := (Exit.then (Code.wp Try.prog C9 (bodyPost Try.prog Try.f9 R)) (bodyPost Try.prog Try.f9 R))
noncomputable def C10 : Code := W.Code.fst C8
noncomputable def C11 : Code := W.Code.snd C8
/-- law.go:140 -/
abbrev S7  (w : World) (R : W.Post) : Prop :=
  R (.returned (.bool false)) w
def KE_S7 (E : W.Env) (w : World) (R : W.Post) : Prop := S7  w R
theorem KE_S7_ok (R : W.Post) (E : W.Env) (w : World) (h : KE_S7 E w R) : W.WP Try.prog 105 C8 (Q0 R) E w := by
  exact fun a ha => W.WP.at (E := []) (W.WP.seq (c := C8) (x := C10) (y := C11) (by kernel_rfl) <| W.WP.reg (c := C10) (fun E w => W.retVC Try.prog Try.f9 E w (fun v => R (.returned v) w)) (by kernel_rfl) (Eq.mp (by kernel_rfl) h) fun _ _ a hA hK => (W.WP.ret (c := C11) (by kernel_rfl) fun a hA => W.retVC_sound hA hK) a hA) ha.nil
noncomputable def C12 : Code := W.Code.snd C9
noncomputable def C13 : Code := W.Code.fst C12
noncomputable def C14 : Code := W.Code.snd C13
noncomputable def C15 : Code := W.Code.fst C14
noncomputable def C16 : Code := W.Code.fst C15
noncomputable def C17 : Code := W.Code.snd C12
abbrev Q1 (R : W.Post) : Exit → Act → World → Prop := (Exit.then (Code.wp Try.prog C17 (bodyPost Try.prog Try.f9 R)) (bodyPost Try.prog Try.f9 R))
abbrev Q2 (R : W.Post) : Exit → Act → World → Prop := (Exit.inBlock 0 (Q1 R))
/-- the head of the loop, law.go:143 -/
def L10 (raw0 kinds4 vals11 turned12 : W.Sl) (r13 : Option Addr) (got14 : W.Sl) (i15 : Int) (w : World) (R : W.Post) : Prop := W.LP Try.prog 105 C16 (Q2 R) [(0, raw0.v), (4, kinds4.v), (11, vals11.v), (12, turned12.v), (13, .pointer r13), (14, got14.v), (15, .int .i64 i15)] w
def KE_L10 (E : W.Env) (w : World) (R : W.Post) : Prop := W.asSlice (W.Env.get? E 0) fun raw0 => W.asSlice (W.Env.get? E 4) fun kinds4 => W.asSlice (W.Env.get? E 11) fun vals11 => W.asSlice (W.Env.get? E 12) fun turned12 => W.asPtr (W.Env.get? E 13) fun r13 => W.asSlice (W.Env.get? E 14) fun got14 => W.asInt .i64 (W.Env.get? E 15) fun i15 => L10 raw0 kinds4 vals11 turned12 r13 got14 i15 w R
theorem KE_L10_ok (R : W.Post) (E : W.Env) (w : World) (h : KE_L10 E w R) : W.LP Try.prog 105 C16 (Q2 R) E w := by
  obtain ⟨raw0, hq0, h1⟩ := W.asSlice_elim h
  obtain ⟨kinds4, hq4, h2⟩ := W.asSlice_elim h1
  obtain ⟨vals11, hq11, h3⟩ := W.asSlice_elim h2
  obtain ⟨turned12, hq12, h4⟩ := W.asSlice_elim h3
  obtain ⟨r13, hq13, h5⟩ := W.asPtr_elim h4
  obtain ⟨got14, hq14, h6⟩ := W.asSlice_elim h5
  obtain ⟨i15, hq15, h7⟩ := W.asInt_elim h6
  intro a ha
  exact h7 a (ha.cons hq0 (ha.cons hq4 (ha.cons hq11 (ha.cons hq12 (ha.cons hq13 (ha.cons hq14 (ha.cons hq15 ha.nil)))))))
noncomputable def C18 : Code := W.Code.snd C16
noncomputable def C19 : Code := W.Code.snd C18
abbrev Q3 (R : W.Post) : Exit → Act → World → Prop := (Exit.then (W.LoopWP Try.prog C16 (Q2 R)) (Q2 R))
/-- law.go:143 -/
abbrev S13 (raw0 kinds4 vals11 turned12 : W.Sl) (r13 : Option Addr) (got14 : W.Sl) (i15 : Int) (w : World) (R : W.Post) : Prop :=
  L10 raw0 kinds4 vals11 turned12 r13 got14 (IntKind.wrap .i64 (i15 + 1)) w R
def KE_S13 (E : W.Env) (w : World) (R : W.Post) : Prop := W.asSlice (W.Env.get? E 0) fun raw0 => W.asSlice (W.Env.get? E 4) fun kinds4 => W.asSlice (W.Env.get? E 11) fun vals11 => W.asSlice (W.Env.get? E 12) fun turned12 => W.asPtr (W.Env.get? E 13) fun r13 => W.asSlice (W.Env.get? E 14) fun got14 => W.asInt .i64 (W.Env.get? E 15) fun i15 => S13 raw0 kinds4 vals11 turned12 r13 got14 i15 w R
theorem KE_S13_ok (R : W.Post) (E : W.Env) (w : World) (h : KE_S13 E w R) : W.WP Try.prog 105 C19 (Q3 R) E w := by
  obtain ⟨raw0, hq0, h1⟩ := W.asSlice_elim h
  obtain ⟨kinds4, hq4, h2⟩ := W.asSlice_elim h1
  obtain ⟨vals11, hq11, h3⟩ := W.asSlice_elim h2
  obtain ⟨turned12, hq12, h4⟩ := W.asSlice_elim h3
  obtain ⟨r13, hq13, h5⟩ := W.asPtr_elim h4
  obtain ⟨got14, hq14, h6⟩ := W.asSlice_elim h5
  obtain ⟨i15, hq15, h7⟩ := W.asInt_elim h6
  exact fun a ha => W.WP.at (E := [(0, raw0.v), (4, kinds4.v), (11, vals11.v), (12, turned12.v), (13, .pointer r13), (14, got14.v), (15, .int .i64 i15)]) (W.WP.reg (c := C19) (fun E w => KE_L10 E w R) (by kernel_rfl) (Eq.mp (by kernel_rfl) h7) fun _ _ a hA hK => KE_L10_ok R _ _ hK a hA) (ha.cons hq0 (ha.cons hq4 (ha.cons hq11 (ha.cons hq12 (ha.cons hq13 (ha.cons hq14 (ha.cons hq15 ha.nil)))))))
noncomputable def C20 : Code := W.Code.fst C18
noncomputable def C21 : Code := W.Code.fst C20
abbrev Q4 (R : W.Post) : Exit → Act → World → Prop := (Exit.then (Code.wp Try.prog C19 (Exit.then (W.LoopWP Try.prog C16 (Q2 R)) (Q2 R))) (Exit.then (W.LoopWP Try.prog C16 (Q2 R)) (Q2 R)))
abbrev Q5 (R : W.Post) : Exit → Act → World → Prop := (Exit.inBlock 1 (Q4 R))
/-- law.go:144 -/
abbrev S12 (raw0 kinds4 vals11 turned12 : W.Sl) (r13 : Option Addr) (got14 : W.Sl) (i15 : Int) (w : World) (R : W.Post) : Prop :=
  (0 : Int) ≤ i15 ∧ i15 < ((vals11.n : Nat) : Int) ∧ W.optP vals11.a fun t46_p => ∃ t48 : Int, w.cell? ((t46_p.add (Int.toNat i15 * 5)).add 0) = some (.int .i64 t48) ∧ 
  Calls Try.prog n_enthymemelaw02_read #[.pointer r13, .int .i64 t48] w fun r_ w1 => ∃ t49_0 : Int, ∃ t49_1 : Int, ∃ t49_2 : Int, ∃ t49_3 : W.Sl, ∃ t49_4 : W.Sl, r_ = .returned (.agg #[.int .i64 t49_0, .int .u64 t49_1, .int .i64 t49_2, t49_3.v, t49_4.v]) ∧ 
  let w2 := w1.alloc (.cells #[.int .i64 t49_0, .int .u64 t49_1, .int .i64 t49_2, t49_3.v, t49_4.v] ty_enthymemeref02_Val)
  ∃ (t51 : W.Sl) (w3 : World), Sem.run Try.prog (Builtin.append_ #[ty_sl_enthymemeref02_Val, ty_sl_enthymemeref02_Val] ty_sl_enthymemeref02_Val #[got14.v, .slice (some (Addr.mk w1.heap.size 0 none)) 1 1]) w2 = .ok (t51.v) w3 ∧ S13 raw0 kinds4 vals11 turned12 r13 t51 i15 w3 R
def KE_S12 (E : W.Env) (w : World) (R : W.Post) : Prop := W.asSlice (W.Env.get? E 0) fun raw0 => W.asSlice (W.Env.get? E 4) fun kinds4 => W.asSlice (W.Env.get? E 11) fun vals11 => W.asSlice (W.Env.get? E 12) fun turned12 => W.asPtr (W.Env.get? E 13) fun r13 => W.asSlice (W.Env.get? E 14) fun got14 => W.asInt .i64 (W.Env.get? E 15) fun i15 => S12 raw0 kinds4 vals11 turned12 r13 got14 i15 w R
theorem KE_S12_ok (R : W.Post) (E : W.Env) (w : World) (h : KE_S12 E w R) : W.WP Try.prog 105 C21 (Q5 R) E w := by
  obtain ⟨raw0, hq0, h1⟩ := W.asSlice_elim h
  obtain ⟨kinds4, hq4, h2⟩ := W.asSlice_elim h1
  obtain ⟨vals11, hq11, h3⟩ := W.asSlice_elim h2
  obtain ⟨turned12, hq12, h4⟩ := W.asSlice_elim h3
  obtain ⟨r13, hq13, h5⟩ := W.asPtr_elim h4
  obtain ⟨got14, hq14, h6⟩ := W.asSlice_elim h5
  obtain ⟨i15, hq15, h7⟩ := W.asInt_elim h6
  exact fun a ha => W.WP.at (E := [(0, raw0.v), (4, kinds4.v), (11, vals11.v), (12, turned12.v), (13, .pointer r13), (14, got14.v), (15, .int .i64 i15)]) (W.WP.reg (c := C21) (fun E w => KE_S13 E w R) (by kernel_rfl) (Eq.mp (by kernel_rfl) h7) fun _ _ a hA hK => (KE_S13_ok R _ _ hK) a hA) (ha.cons hq0 (ha.cons hq4 (ha.cons hq11 (ha.cons hq12 (ha.cons hq13 (ha.cons hq14 (ha.cons hq15 ha.nil)))))))
noncomputable def C22 : Code := W.Code.fst C17
noncomputable def C23 : Code := W.Code.snd C22
noncomputable def C24 : Code := W.Code.fst C23
noncomputable def C25 : Code := W.Code.snd C17
abbrev Q6 (R : W.Post) : Exit → Act → World → Prop := (Exit.then (Code.wp Try.prog C25 (bodyPost Try.prog Try.f9 R)) (bodyPost Try.prog Try.f9 R))
noncomputable def C26 : Code := W.Code.fst C24
noncomputable def C27 : Code := W.Code.snd C24
/-- law.go:147 -/
abbrev S15  (w : World) (R : W.Post) : Prop :=
  R (.returned (.bool false)) w
def KE_S15 (E : W.Env) (w : World) (R : W.Post) : Prop := S15  w R
theorem KE_S15_ok (R : W.Post) (E : W.Env) (w : World) (h : KE_S15 E w R) : W.WP Try.prog 105 C24 (Q6 R) E w := by
  exact fun a ha => W.WP.at (E := []) (W.WP.seq (c := C24) (x := C26) (y := C27) (by kernel_rfl) <| W.WP.reg (c := C26) (fun E w => W.retVC Try.prog Try.f9 E w (fun v => R (.returned v) w)) (by kernel_rfl) (Eq.mp (by kernel_rfl) h) fun _ _ a hA hK => (W.WP.ret (c := C27) (by kernel_rfl) fun a hA => W.retVC_sound hA hK) a hA) ha.nil
noncomputable def C28 : Code := W.Code.snd C25
noncomputable def C29 : Code := W.Code.snd C28
noncomputable def C30 : Code := W.Code.fst C29
noncomputable def C31 : Code := W.Code.snd C30
noncomputable def C32 : Code := W.Code.fst C31
noncomputable def C33 : Code := W.Code.snd C29
abbrev Q7 (R : W.Post) : Exit → Act → World → Prop := (Exit.then (Code.wp Try.prog C33 (bodyPost Try.prog Try.f9 R)) (bodyPost Try.prog Try.f9 R))
noncomputable def C34 : Code := W.Code.fst C32
noncomputable def C35 : Code := W.Code.snd C32
/-- law.go:152 -/
abbrev S19  (w : World) (R : W.Post) : Prop :=
  R (.returned (.bool false)) w
def KE_S19 (E : W.Env) (w : World) (R : W.Post) : Prop := S19  w R
theorem KE_S19_ok (R : W.Post) (E : W.Env) (w : World) (h : KE_S19 E w R) : W.WP Try.prog 105 C32 (Q7 R) E w := by
  exact fun a ha => W.WP.at (E := []) (W.WP.seq (c := C32) (x := C34) (y := C35) (by kernel_rfl) <| W.WP.reg (c := C34) (fun E w => W.retVC Try.prog Try.f9 E w (fun v => R (.returned v) w)) (by kernel_rfl) (Eq.mp (by kernel_rfl) h) fun _ _ a hA hK => (W.WP.ret (c := C35) (by kernel_rfl) fun a hA => W.retVC_sound hA hK) a hA) ha.nil
noncomputable def C36 : Code := W.Code.snd C33
noncomputable def C37 : Code := W.Code.fst C36
noncomputable def C38 : Code := W.Code.snd C37
noncomputable def C39 : Code := W.Code.fst C38
noncomputable def C40 : Code := W.Code.fst C39
noncomputable def C41 : Code := W.Code.snd C36
abbrev Q8 (R : W.Post) : Exit → Act → World → Prop := (Exit.then (Code.wp Try.prog C41 (bodyPost Try.prog Try.f9 R)) (bodyPost Try.prog Try.f9 R))
abbrev Q9 (R : W.Post) : Exit → Act → World → Prop := (Exit.inBlock 2 (Q8 R))
/-- the head of the loop, law.go:155 -/
def L22 (kinds4 : W.Sl) (r13 : Option Addr) (got14 few16 : W.Sl) (i17 : Int) (w : World) (R : W.Post) : Prop := W.LP Try.prog 105 C40 (Q9 R) [(4, kinds4.v), (13, .pointer r13), (14, got14.v), (16, few16.v), (17, .int .i64 i17)] w
def KE_L22 (E : W.Env) (w : World) (R : W.Post) : Prop := W.asSlice (W.Env.get? E 4) fun kinds4 => W.asPtr (W.Env.get? E 13) fun r13 => W.asSlice (W.Env.get? E 14) fun got14 => W.asSlice (W.Env.get? E 16) fun few16 => W.asInt .i64 (W.Env.get? E 17) fun i17 => L22 kinds4 r13 got14 few16 i17 w R
theorem KE_L22_ok (R : W.Post) (E : W.Env) (w : World) (h : KE_L22 E w R) : W.LP Try.prog 105 C40 (Q9 R) E w := by
  obtain ⟨kinds4, hq4, h1⟩ := W.asSlice_elim h
  obtain ⟨r13, hq13, h2⟩ := W.asPtr_elim h1
  obtain ⟨got14, hq14, h3⟩ := W.asSlice_elim h2
  obtain ⟨few16, hq16, h4⟩ := W.asSlice_elim h3
  obtain ⟨i17, hq17, h5⟩ := W.asInt_elim h4
  intro a ha
  exact h5 a (ha.cons hq4 (ha.cons hq13 (ha.cons hq14 (ha.cons hq16 (ha.cons hq17 ha.nil)))))
noncomputable def C42 : Code := W.Code.snd C40
noncomputable def C43 : Code := W.Code.snd C42
abbrev Q10 (R : W.Post) : Exit → Act → World → Prop := (Exit.then (W.LoopWP Try.prog C40 (Q9 R)) (Q9 R))
/-- law.go:155 -/
abbrev S25 (kinds4 : W.Sl) (r13 : Option Addr) (got14 few16 : W.Sl) (i17 : Int) (w : World) (R : W.Post) : Prop :=
  L22 kinds4 r13 got14 few16 (IntKind.wrap .i64 (i17 + 1)) w R
def KE_S25 (E : W.Env) (w : World) (R : W.Post) : Prop := W.asSlice (W.Env.get? E 4) fun kinds4 => W.asPtr (W.Env.get? E 13) fun r13 => W.asSlice (W.Env.get? E 14) fun got14 => W.asSlice (W.Env.get? E 16) fun few16 => W.asInt .i64 (W.Env.get? E 17) fun i17 => S25 kinds4 r13 got14 few16 i17 w R
theorem KE_S25_ok (R : W.Post) (E : W.Env) (w : World) (h : KE_S25 E w R) : W.WP Try.prog 105 C43 (Q10 R) E w := by
  obtain ⟨kinds4, hq4, h1⟩ := W.asSlice_elim h
  obtain ⟨r13, hq13, h2⟩ := W.asPtr_elim h1
  obtain ⟨got14, hq14, h3⟩ := W.asSlice_elim h2
  obtain ⟨few16, hq16, h4⟩ := W.asSlice_elim h3
  obtain ⟨i17, hq17, h5⟩ := W.asInt_elim h4
  exact fun a ha => W.WP.at (E := [(4, kinds4.v), (13, .pointer r13), (14, got14.v), (16, few16.v), (17, .int .i64 i17)]) (W.WP.reg (c := C43) (fun E w => KE_L22 E w R) (by kernel_rfl) (Eq.mp (by kernel_rfl) h5) fun _ _ a hA hK => KE_L22_ok R _ _ hK a hA) (ha.cons hq4 (ha.cons hq13 (ha.cons hq14 (ha.cons hq16 (ha.cons hq17 ha.nil)))))
noncomputable def C44 : Code := W.Code.fst C42
noncomputable def C45 : Code := W.Code.fst C44
abbrev Q11 (R : W.Post) : Exit → Act → World → Prop := (Exit.then (Code.wp Try.prog C43 (Exit.then (W.LoopWP Try.prog C40 (Q9 R)) (Q9 R))) (Exit.then (W.LoopWP Try.prog C40 (Q9 R)) (Q9 R)))
abbrev Q12 (R : W.Post) : Exit → Act → World → Prop := (Exit.inBlock 3 (Q11 R))
/-- law.go:156 -/
abbrev S24 (kinds4 : W.Sl) (r13 : Option Addr) (got14 few16 : W.Sl) (i17 : Int) (w : World) (R : W.Post) : Prop :=
  (0 : Int) ≤ i17 ∧ i17 < ((kinds4.n : Nat) : Int) ∧ W.optP kinds4.a fun t87_p => ∃ t88 : Int, w.cell? (t87_p.add (Int.toNat i17 * 1)) = some (.int .i64 t88) ∧ 
  Calls Try.prog n_enthymemeref01_Around #[.int .i64 t88, .int .i64 6] w fun r_ w1 => ∃ t89 : Int, r_ = .returned (.int .i64 t89) ∧ 
  Calls Try.prog n_enthymemelaw02_read #[.pointer r13, .int .i64 t89] w1 fun r_ w2 => ∃ t90_0 : Int, ∃ t90_1 : Int, ∃ t90_2 : Int, ∃ t90_3 : W.Sl, ∃ t90_4 : W.Sl, r_ = .returned (.agg #[.int .i64 t90_0, .int .u64 t90_1, .int .i64 t90_2, t90_3.v, t90_4.v]) ∧ 
  let w3 := w2.alloc (.cells #[.int .i64 t90_0, .int .u64 t90_1, .int .i64 t90_2, t90_3.v, t90_4.v] ty_enthymemeref02_Val)
  ∃ (t92 : W.Sl) (w4 : World), Sem.run Try.prog (Builtin.append_ #[ty_sl_enthymemeref02_Val, ty_sl_enthymemeref02_Val] ty_sl_enthymemeref02_Val #[got14.v, .slice (some (Addr.mk w2.heap.size 0 none)) 1 1]) w3 = .ok (t92.v) w4 ∧ S25 kinds4 r13 t92 few16 i17 w4 R
def KE_S24 (E : W.Env) (w : World) (R : W.Post) : Prop := W.asSlice (W.Env.get? E 4) fun kinds4 => W.asPtr (W.Env.get? E 13) fun r13 => W.asSlice (W.Env.get? E 14) fun got14 => W.asSlice (W.Env.get? E 16) fun few16 => W.asInt .i64 (W.Env.get? E 17) fun i17 => S24 kinds4 r13 got14 few16 i17 w R
theorem KE_S24_ok (R : W.Post) (E : W.Env) (w : World) (h : KE_S24 E w R) : W.WP Try.prog 105 C45 (Q12 R) E w := by
  obtain ⟨kinds4, hq4, h1⟩ := W.asSlice_elim h
  obtain ⟨r13, hq13, h2⟩ := W.asPtr_elim h1
  obtain ⟨got14, hq14, h3⟩ := W.asSlice_elim h2
  obtain ⟨few16, hq16, h4⟩ := W.asSlice_elim h3
  obtain ⟨i17, hq17, h5⟩ := W.asInt_elim h4
  exact fun a ha => W.WP.at (E := [(4, kinds4.v), (13, .pointer r13), (14, got14.v), (16, few16.v), (17, .int .i64 i17)]) (W.WP.reg (c := C45) (fun E w => KE_S25 E w R) (by kernel_rfl) (Eq.mp (by kernel_rfl) h5) fun _ _ a hA hK => (KE_S25_ok R _ _ hK) a hA) (ha.cons hq4 (ha.cons hq13 (ha.cons hq14 (ha.cons hq16 (ha.cons hq17 ha.nil)))))
abbrev Q13 (R : W.Post) : Exit → Act → World → Prop := (bodyPost Try.prog Try.f9 R)
noncomputable def C46 : Code := W.Code.fst C41
noncomputable def C47 : Code := W.Code.snd C41
/-- law.go:158 -/
abbrev S26 (r13 : Option Addr) (got14 few16 : W.Sl) (w : World) (R : W.Post) : Prop :=
  Calls Try.prog n_wire_Reader_End #[.pointer r13] w fun r_ w1 => ∃ t94 : Int, r_ = .returned (.int .i64 t94) ∧ 
  W.sel (t94 != 0) (Calls Try.prog n_enthymemelaw02_lives #[] w1 fun r_ w2 => ∃ t103 : Bool, r_ = .returned (.bool t103) ∧ 
  R (.returned (.bool t103)) w2) (Calls Try.prog n_enthymemelaw02_encode #[got14.v] w1 fun r_ w3 => ∃ t98 : W.Sl, r_ = .returned (t98.v) ∧ 
  Calls Try.prog n_enthymemeref01_SameBytes #[t98.v, few16.v] w3 fun r_ w4 => ∃ t100 : Bool, r_ = .returned (.bool t100) ∧ 
  W.sel t100 (Calls Try.prog n_enthymemelaw02_lives #[] w4 fun r_ w5 => ∃ t103 : Bool, r_ = .returned (.bool t103) ∧ 
  R (.returned (.bool t103)) w5) (R (.returned (.bool false)) w4))
def KE_S26 (E : W.Env) (w : World) (R : W.Post) : Prop := W.asPtr (W.Env.get? E 13) fun r13 => W.asSlice (W.Env.get? E 14) fun got14 => W.asSlice (W.Env.get? E 16) fun few16 => S26 r13 got14 few16 w R
theorem KE_S26_ok (R : W.Post) (E : W.Env) (w : World) (h : KE_S26 E w R) : W.WP Try.prog 105 C41 (Q13 R) E w := by
  obtain ⟨r13, hq13, h1⟩ := W.asPtr_elim h
  obtain ⟨got14, hq14, h2⟩ := W.asSlice_elim h1
  obtain ⟨few16, hq16, h3⟩ := W.asSlice_elim h2
  exact fun a ha => W.WP.at (E := [(13, .pointer r13), (14, got14.v), (16, few16.v)]) (W.WP.seq (c := C41) (x := C46) (y := C47) (by kernel_rfl) <| W.WP.reg (c := C46) (fun E w => W.retVC Try.prog Try.f9 E w (fun v => R (.returned v) w)) (by kernel_rfl) (Eq.mp (by kernel_rfl) h3) fun _ _ a hA hK => (W.WP.ret (c := C47) (by kernel_rfl) fun a hA => W.retVC_sound hA hK) a hA) (ha.cons hq13 (ha.cons hq14 (ha.cons hq16 ha.nil)))
noncomputable def C48 : Code := W.Code.fst C40
abbrev Q14 (R : W.Post) : Exit → Act → World → Prop := (Exit.then (Code.wp Try.prog C42 (Exit.then (W.LoopWP Try.prog C40 (Q9 R)) (Q9 R))) (Exit.then (W.LoopWP Try.prog C40 (Q9 R)) (Q9 R)))
noncomputable def C49 : Code := W.Code.fst C48
noncomputable def C50 : Code := W.Code.snd C48
noncomputable def C51 : Code := W.Code.fst C50
noncomputable def C52 : Code := W.Code.snd C50
/-- law.go:155 -/
abbrev S23 (kinds4 : W.Sl) (r13 : Option Addr) (got14 few16 : W.Sl) (i17 : Int) (w : World) (R : W.Post) : Prop :=
  W.sel (decide (i17 < ((kinds4.n : Nat) : Int))) (W.sel (decide (i17 < 10)) (Calls Try.prog n_wire_Reader_End #[.pointer r13] w fun r_ w1 => ∃ t78 : Int, r_ = .returned (.int .i64 t78) ∧ 
  W.sel (t78 != 0) (S24 kinds4 r13 got14 few16 i17 w1 R) (S26 r13 got14 few16 w1 R)) (S26 r13 got14 few16 w R)) (S26 r13 got14 few16 w R)
def KE_S23 (E : W.Env) (w : World) (R : W.Post) : Prop := W.asSlice (W.Env.get? E 4) fun kinds4 => W.asPtr (W.Env.get? E 13) fun r13 => W.asSlice (W.Env.get? E 14) fun got14 => W.asSlice (W.Env.get? E 16) fun few16 => W.asInt .i64 (W.Env.get? E 17) fun i17 => S23 kinds4 r13 got14 few16 i17 w R
theorem KE_S23_ok (R : W.Post) (E : W.Env) (w : World) (h : KE_S23 E w R) : W.WP Try.prog 105 C48 (Q14 R) E w := by
  obtain ⟨kinds4, hq4, h1⟩ := W.asSlice_elim h
  obtain ⟨r13, hq13, h2⟩ := W.asPtr_elim h1
  obtain ⟨got14, hq14, h3⟩ := W.asSlice_elim h2
  obtain ⟨few16, hq16, h4⟩ := W.asSlice_elim h3
  obtain ⟨i17, hq17, h5⟩ := W.asInt_elim h4
  exact fun a ha => W.WP.at (E := [(4, kinds4.v), (13, .pointer r13), (14, got14.v), (16, few16.v), (17, .int .i64 i17)]) (W.WP.seq (c := C48) (x := C49) (y := C50) (by kernel_rfl) <| W.WP.reg (c := C49) (fun E w => W.condK (W.Env.val E (.tmp 80)) (KE_S24 E w R) (KE_S26 E w R)) (by kernel_rfl) (Eq.mp (by kernel_rfl) h5) fun _ _ a hA hK => (W.WP.condK (c := C50) (x := C51) (y := C52) (o := .tmp 80) (by kernel_rfl) (fun hK => (W.WP.skip (c := C51) (by kernel_rfl) fun a hA => (W.WP.seq (c := C42) (x := C44) (y := C43) (by kernel_rfl) (W.WP.block (c := C44) (x := C45) (id := 3) (by kernel_rfl) (KE_S24_ok R _ _ hK))) a hA)) (fun hK => (W.WP.exit (c := C52) (id := 2) (by kernel_rfl) fun a hA => (KE_S26_ok R _ _ hK) a hA)) hK) a hA) (ha.cons hq4 (ha.cons hq13 (ha.cons hq14 (ha.cons hq16 (ha.cons hq17 ha.nil)))))
theorem L22_step (kinds4 : W.Sl) (r13 : Option Addr) (got14 few16 : W.Sl) (i17 : Int) (w : World) (R : W.Post) (h : S23 kinds4 r13 got14 few16 i17 w R) : L22 kinds4 r13 got14 few16 i17 w R :=
  W.LP.step (c := C40) (E := [(4, kinds4.v), (13, .pointer r13), (14, got14.v), (16, few16.v), (17, .int .i64 i17)]) (w := w) (W.WP.seq (c := C40) (x := C48) (y := C42) (by kernel_rfl) (KE_S23_ok R _ _ (Eq.mp (by kernel_rfl) h)))
noncomputable def C53 : Code := W.Code.fst C37
/-- law.go:155 -/
abbrev S21 (kinds4 : W.Sl) (r13 : Option Addr) (got14 few16 : W.Sl) (w : World) (R : W.Post) : Prop :=
  L22 kinds4 r13 got14 few16 0 w R
def KE_S21 (E : W.Env) (w : World) (R : W.Post) : Prop := W.asSlice (W.Env.get? E 4) fun kinds4 => W.asPtr (W.Env.get? E 13) fun r13 => W.asSlice (W.Env.get? E 14) fun got14 => W.asSlice (W.Env.get? E 16) fun few16 => S21 kinds4 r13 got14 few16 w R
theorem KE_S21_ok (R : W.Post) (E : W.Env) (w : World) (h : KE_S21 E w R) : W.WP Try.prog 105 C37 (Q8 R) E w := by
  obtain ⟨kinds4, hq4, h1⟩ := W.asSlice_elim h
  obtain ⟨r13, hq13, h2⟩ := W.asPtr_elim h1
  obtain ⟨got14, hq14, h3⟩ := W.asSlice_elim h2
  obtain ⟨few16, hq16, h4⟩ := W.asSlice_elim h3
  exact fun a ha => W.WP.at (E := [(4, kinds4.v), (13, .pointer r13), (14, got14.v), (16, few16.v)]) (W.WP.seq (c := C37) (x := C53) (y := C38) (by kernel_rfl) <| W.WP.reg (c := C53) (fun E w => KE_L22 E w R) (by kernel_rfl) (Eq.mp (by kernel_rfl) h4) fun _ _ a hA hK => (W.WP.block (c := C38) (x := C39) (id := 2) (by kernel_rfl) (W.WP.loop (c := C39) (x := C40) (by kernel_rfl) (KE_L22_ok R _ _ hK))) a hA) (ha.cons hq4 (ha.cons hq13 (ha.cons hq14 (ha.cons hq16 ha.nil))))
noncomputable def C54 : Code := W.Code.fst C33
/-- law.go:154 -/
abbrev S20 (kinds4 : W.Sl) (r13 : Option Addr) (few16 : W.Sl) (w : World) (R : W.Post) : Prop :=
  S21 kinds4 r13 ⟨none, 0, 0⟩ few16 w R
def KE_S20 (E : W.Env) (w : World) (R : W.Post) : Prop := W.asSlice (W.Env.get? E 4) fun kinds4 => W.asPtr (W.Env.get? E 13) fun r13 => W.asSlice (W.Env.get? E 16) fun few16 => S20 kinds4 r13 few16 w R
theorem KE_S20_ok (R : W.Post) (E : W.Env) (w : World) (h : KE_S20 E w R) : W.WP Try.prog 105 C33 (Q13 R) E w := by
  obtain ⟨kinds4, hq4, h1⟩ := W.asSlice_elim h
  obtain ⟨r13, hq13, h2⟩ := W.asPtr_elim h1
  obtain ⟨few16, hq16, h3⟩ := W.asSlice_elim h2
  exact fun a ha => W.WP.at (E := [(4, kinds4.v), (13, .pointer r13), (16, few16.v)]) (W.WP.seq (c := C33) (x := C54) (y := C36) (by kernel_rfl) <| W.WP.reg (c := C54) (fun E w => KE_S21 E w R) (by kernel_rfl) (Eq.mp (by kernel_rfl) h3) fun _ _ a hA hK => (W.WP.seq (c := C36) (x := C37) (y := C41) (by kernel_rfl) (KE_S21_ok R _ _ hK)) a hA) (ha.cons hq4 (ha.cons hq13 (ha.cons hq16 ha.nil)))
noncomputable def C55 : Code := W.Code.fst C30
noncomputable def C56 : Code := W.Code.snd C31
/-- law.go:151 -/
abbrev S18 (kinds4 : W.Sl) (r13 : Option Addr) (few16 : W.Sl) (w : World) (R : W.Post) : Prop :=
  W.sel r13.isNone (S19  w R) (S20 kinds4 r13 few16 w R)
def KE_S18 (E : W.Env) (w : World) (R : W.Post) : Prop := W.asSlice (W.Env.get? E 4) fun kinds4 => W.asPtr (W.Env.get? E 13) fun r13 => W.asSlice (W.Env.get? E 16) fun few16 => S18 kinds4 r13 few16 w R
theorem KE_S18_ok (R : W.Post) (E : W.Env) (w : World) (h : KE_S18 E w R) : W.WP Try.prog 105 C30 (Q7 R) E w := by
  obtain ⟨kinds4, hq4, h1⟩ := W.asSlice_elim h
  obtain ⟨r13, hq13, h2⟩ := W.asPtr_elim h1
  obtain ⟨few16, hq16, h3⟩ := W.asSlice_elim h2
  exact fun a ha => W.WP.at (E := [(4, kinds4.v), (13, .pointer r13), (16, few16.v)]) (W.WP.seq (c := C30) (x := C55) (y := C31) (by kernel_rfl) <| W.WP.reg (c := C55) (fun E w => W.condK (W.Env.val E (.tmp 67)) (KE_S19 E w R) (KE_S20 E w R)) (by kernel_rfl) (Eq.mp (by kernel_rfl) h3) fun _ _ a hA hK => (W.WP.condK (c := C31) (x := C32) (y := C56) (o := .tmp 67) (by kernel_rfl) (fun hK => (KE_S19_ok R _ _ hK)) (fun hK => (W.WP.skip (c := C56) (by kernel_rfl) fun a hA => (KE_S20_ok R _ _ hK) a hA)) hK) a hA) (ha.cons hq4 (ha.cons hq13 (ha.cons hq16 ha.nil)))
noncomputable def C57 : Code := W.Code.fst C28
/-- law.go:150 -/
abbrev S17 (kinds4 few16 : W.Sl) (w : World) (R : W.Post) : Prop :=
  Calls Try.prog n_wire_Read #[few16.v] w fun r_ w1 => ∃ t65 : Option Addr, r_ = .returned (.pointer t65) ∧ 
  S18 kinds4 t65 few16 w1 R
def KE_S17 (E : W.Env) (w : World) (R : W.Post) : Prop := W.asSlice (W.Env.get? E 4) fun kinds4 => W.asSlice (W.Env.get? E 16) fun few16 => S17 kinds4 few16 w R
theorem KE_S17_ok (R : W.Post) (E : W.Env) (w : World) (h : KE_S17 E w R) : W.WP Try.prog 105 C28 (Q13 R) E w := by
  obtain ⟨kinds4, hq4, h1⟩ := W.asSlice_elim h
  obtain ⟨few16, hq16, h2⟩ := W.asSlice_elim h1
  exact fun a ha => W.WP.at (E := [(4, kinds4.v), (16, few16.v)]) (W.WP.seq (c := C28) (x := C57) (y := C29) (by kernel_rfl) <| W.WP.reg (c := C57) (fun E w => KE_S18 E w R) (by kernel_rfl) (Eq.mp (by kernel_rfl) h2) fun _ _ a hA hK => (W.WP.seq (c := C29) (x := C30) (y := C33) (by kernel_rfl) (KE_S18_ok R _ _ hK)) a hA) (ha.cons hq4 (ha.cons hq16 ha.nil))
noncomputable def C58 : Code := W.Code.fst C25
/-- law.go:149 -/
abbrev S16 (raw0 kinds4 : W.Sl) (w : World) (R : W.Post) : Prop :=
  Calls Try.prog n_enthymemeref01_Few #[raw0.v, .int .i64 60] w fun r_ w1 => ∃ t63 : W.Sl, r_ = .returned (t63.v) ∧ 
  S17 kinds4 t63 w1 R
def KE_S16 (E : W.Env) (w : World) (R : W.Post) : Prop := W.asSlice (W.Env.get? E 0) fun raw0 => W.asSlice (W.Env.get? E 4) fun kinds4 => S16 raw0 kinds4 w R
theorem KE_S16_ok (R : W.Post) (E : W.Env) (w : World) (h : KE_S16 E w R) : W.WP Try.prog 105 C25 (Q13 R) E w := by
  obtain ⟨raw0, hq0, h1⟩ := W.asSlice_elim h
  obtain ⟨kinds4, hq4, h2⟩ := W.asSlice_elim h1
  exact fun a ha => W.WP.at (E := [(0, raw0.v), (4, kinds4.v)]) (W.WP.seq (c := C25) (x := C58) (y := C28) (by kernel_rfl) <| W.WP.reg (c := C58) (fun E w => KE_S17 E w R) (by kernel_rfl) (Eq.mp (by kernel_rfl) h2) fun _ _ a hA hK => (KE_S17_ok R _ _ hK) a hA) (ha.cons hq0 (ha.cons hq4 ha.nil))
noncomputable def C59 : Code := W.Code.fst C22
noncomputable def C60 : Code := W.Code.snd C23
/-- law.go:146 -/
abbrev S14 (raw0 kinds4 turned12 : W.Sl) (r13 : Option Addr) (got14 : W.Sl) (w : World) (R : W.Post) : Prop :=
  Calls Try.prog n_wire_Reader_End #[.pointer r13] w fun r_ w1 => ∃ t53 : Int, r_ = .returned (.int .i64 t53) ∧ 
  W.sel (t53 == 0) (Calls Try.prog n_enthymemelaw02_encode #[got14.v] w1 fun r_ w2 => ∃ t57 : W.Sl, r_ = .returned (t57.v) ∧ 
  Calls Try.prog n_enthymemeref01_SameBytes #[t57.v, turned12.v] w2 fun r_ w3 => ∃ t59 : Bool, r_ = .returned (.bool t59) ∧ 
  W.sel (!t59) (S15  w3 R) (S16 raw0 kinds4 w3 R)) (S16 raw0 kinds4 w1 R)
def KE_S14 (E : W.Env) (w : World) (R : W.Post) : Prop := W.asSlice (W.Env.get? E 0) fun raw0 => W.asSlice (W.Env.get? E 4) fun kinds4 => W.asSlice (W.Env.get? E 12) fun turned12 => W.asPtr (W.Env.get? E 13) fun r13 => W.asSlice (W.Env.get? E 14) fun got14 => S14 raw0 kinds4 turned12 r13 got14 w R
theorem KE_S14_ok (R : W.Post) (E : W.Env) (w : World) (h : KE_S14 E w R) : W.WP Try.prog 105 C22 (Q6 R) E w := by
  obtain ⟨raw0, hq0, h1⟩ := W.asSlice_elim h
  obtain ⟨kinds4, hq4, h2⟩ := W.asSlice_elim h1
  obtain ⟨turned12, hq12, h3⟩ := W.asSlice_elim h2
  obtain ⟨r13, hq13, h4⟩ := W.asPtr_elim h3
  obtain ⟨got14, hq14, h5⟩ := W.asSlice_elim h4
  exact fun a ha => W.WP.at (E := [(0, raw0.v), (4, kinds4.v), (12, turned12.v), (13, .pointer r13), (14, got14.v)]) (W.WP.seq (c := C22) (x := C59) (y := C23) (by kernel_rfl) <| W.WP.reg (c := C59) (fun E w => W.condK (W.Env.val E (.tmp 61)) (KE_S15 E w R) (KE_S16 E w R)) (by kernel_rfl) (Eq.mp (by kernel_rfl) h5) fun _ _ a hA hK => (W.WP.condK (c := C23) (x := C24) (y := C60) (o := .tmp 61) (by kernel_rfl) (fun hK => (KE_S15_ok R _ _ hK)) (fun hK => (W.WP.skip (c := C60) (by kernel_rfl) fun a hA => (KE_S16_ok R _ _ hK) a hA)) hK) a hA) (ha.cons hq0 (ha.cons hq4 (ha.cons hq12 (ha.cons hq13 (ha.cons hq14 ha.nil)))))
noncomputable def C61 : Code := W.Code.fst C16
abbrev Q15 (R : W.Post) : Exit → Act → World → Prop := (Exit.then (Code.wp Try.prog C18 (Exit.then (W.LoopWP Try.prog C16 (Q2 R)) (Q2 R))) (Exit.then (W.LoopWP Try.prog C16 (Q2 R)) (Q2 R)))
noncomputable def C62 : Code := W.Code.fst C61
noncomputable def C63 : Code := W.Code.snd C61
noncomputable def C64 : Code := W.Code.fst C63
noncomputable def C65 : Code := W.Code.snd C63
/-- law.go:143 -/
abbrev S11 (raw0 kinds4 vals11 turned12 : W.Sl) (r13 : Option Addr) (got14 : W.Sl) (i15 : Int) (w : World) (R : W.Post) : Prop :=
  W.sel (decide (i15 < ((vals11.n : Nat) : Int))) (S12 raw0 kinds4 vals11 turned12 r13 got14 i15 w R) (S14 raw0 kinds4 turned12 r13 got14 w R)
def KE_S11 (E : W.Env) (w : World) (R : W.Post) : Prop := W.asSlice (W.Env.get? E 0) fun raw0 => W.asSlice (W.Env.get? E 4) fun kinds4 => W.asSlice (W.Env.get? E 11) fun vals11 => W.asSlice (W.Env.get? E 12) fun turned12 => W.asPtr (W.Env.get? E 13) fun r13 => W.asSlice (W.Env.get? E 14) fun got14 => W.asInt .i64 (W.Env.get? E 15) fun i15 => S11 raw0 kinds4 vals11 turned12 r13 got14 i15 w R
theorem KE_S11_ok (R : W.Post) (E : W.Env) (w : World) (h : KE_S11 E w R) : W.WP Try.prog 105 C61 (Q15 R) E w := by
  obtain ⟨raw0, hq0, h1⟩ := W.asSlice_elim h
  obtain ⟨kinds4, hq4, h2⟩ := W.asSlice_elim h1
  obtain ⟨vals11, hq11, h3⟩ := W.asSlice_elim h2
  obtain ⟨turned12, hq12, h4⟩ := W.asSlice_elim h3
  obtain ⟨r13, hq13, h5⟩ := W.asPtr_elim h4
  obtain ⟨got14, hq14, h6⟩ := W.asSlice_elim h5
  obtain ⟨i15, hq15, h7⟩ := W.asInt_elim h6
  exact fun a ha => W.WP.at (E := [(0, raw0.v), (4, kinds4.v), (11, vals11.v), (12, turned12.v), (13, .pointer r13), (14, got14.v), (15, .int .i64 i15)]) (W.WP.seq (c := C61) (x := C62) (y := C63) (by kernel_rfl) <| W.WP.reg (c := C62) (fun E w => W.condK (W.Env.val E (.tmp 39)) (KE_S12 E w R) (KE_S14 E w R)) (by kernel_rfl) (Eq.mp (by kernel_rfl) h7) fun _ _ a hA hK => (W.WP.condK (c := C63) (x := C64) (y := C65) (o := .tmp 39) (by kernel_rfl) (fun hK => (W.WP.skip (c := C64) (by kernel_rfl) fun a hA => (W.WP.seq (c := C18) (x := C20) (y := C19) (by kernel_rfl) (W.WP.block (c := C20) (x := C21) (id := 1) (by kernel_rfl) (KE_S12_ok R _ _ hK))) a hA)) (fun hK => (W.WP.exit (c := C65) (id := 0) (by kernel_rfl) fun a hA => (W.WP.seq (c := C17) (x := C22) (y := C25) (by kernel_rfl) (KE_S14_ok R _ _ hK)) a hA)) hK) a hA) (ha.cons hq0 (ha.cons hq4 (ha.cons hq11 (ha.cons hq12 (ha.cons hq13 (ha.cons hq14 (ha.cons hq15 ha.nil)))))))
theorem L10_step (raw0 kinds4 vals11 turned12 : W.Sl) (r13 : Option Addr) (got14 : W.Sl) (i15 : Int) (w : World) (R : W.Post) (h : S11 raw0 kinds4 vals11 turned12 r13 got14 i15 w R) : L10 raw0 kinds4 vals11 turned12 r13 got14 i15 w R :=
  W.LP.step (c := C16) (E := [(0, raw0.v), (4, kinds4.v), (11, vals11.v), (12, turned12.v), (13, .pointer r13), (14, got14.v), (15, .int .i64 i15)]) (w := w) (W.WP.seq (c := C16) (x := C61) (y := C18) (by kernel_rfl) (KE_S11_ok R _ _ (Eq.mp (by kernel_rfl) h)))
noncomputable def C66 : Code := W.Code.fst C13
/-- law.go:143 -/
abbrev S9 (raw0 kinds4 vals11 turned12 : W.Sl) (r13 : Option Addr) (got14 : W.Sl) (w : World) (R : W.Post) : Prop :=
  L10 raw0 kinds4 vals11 turned12 r13 got14 0 w R
def KE_S9 (E : W.Env) (w : World) (R : W.Post) : Prop := W.asSlice (W.Env.get? E 0) fun raw0 => W.asSlice (W.Env.get? E 4) fun kinds4 => W.asSlice (W.Env.get? E 11) fun vals11 => W.asSlice (W.Env.get? E 12) fun turned12 => W.asPtr (W.Env.get? E 13) fun r13 => W.asSlice (W.Env.get? E 14) fun got14 => S9 raw0 kinds4 vals11 turned12 r13 got14 w R
theorem KE_S9_ok (R : W.Post) (E : W.Env) (w : World) (h : KE_S9 E w R) : W.WP Try.prog 105 C13 (Q1 R) E w := by
  obtain ⟨raw0, hq0, h1⟩ := W.asSlice_elim h
  obtain ⟨kinds4, hq4, h2⟩ := W.asSlice_elim h1
  obtain ⟨vals11, hq11, h3⟩ := W.asSlice_elim h2
  obtain ⟨turned12, hq12, h4⟩ := W.asSlice_elim h3
  obtain ⟨r13, hq13, h5⟩ := W.asPtr_elim h4
  obtain ⟨got14, hq14, h6⟩ := W.asSlice_elim h5
  exact fun a ha => W.WP.at (E := [(0, raw0.v), (4, kinds4.v), (11, vals11.v), (12, turned12.v), (13, .pointer r13), (14, got14.v)]) (W.WP.seq (c := C13) (x := C66) (y := C14) (by kernel_rfl) <| W.WP.reg (c := C66) (fun E w => KE_L10 E w R) (by kernel_rfl) (Eq.mp (by kernel_rfl) h6) fun _ _ a hA hK => (W.WP.block (c := C14) (x := C15) (id := 0) (by kernel_rfl) (W.WP.loop (c := C15) (x := C16) (by kernel_rfl) (KE_L10_ok R _ _ hK))) a hA) (ha.cons hq0 (ha.cons hq4 (ha.cons hq11 (ha.cons hq12 (ha.cons hq13 (ha.cons hq14 ha.nil))))))
noncomputable def C67 : Code := W.Code.fst C9
/-- law.go:142 -/
abbrev S8 (raw0 kinds4 vals11 turned12 : W.Sl) (r13 : Option Addr) (w : World) (R : W.Post) : Prop :=
  S9 raw0 kinds4 vals11 turned12 r13 ⟨none, 0, 0⟩ w R
def KE_S8 (E : W.Env) (w : World) (R : W.Post) : Prop := W.asSlice (W.Env.get? E 0) fun raw0 => W.asSlice (W.Env.get? E 4) fun kinds4 => W.asSlice (W.Env.get? E 11) fun vals11 => W.asSlice (W.Env.get? E 12) fun turned12 => W.asPtr (W.Env.get? E 13) fun r13 => S8 raw0 kinds4 vals11 turned12 r13 w R
theorem KE_S8_ok (R : W.Post) (E : W.Env) (w : World) (h : KE_S8 E w R) : W.WP Try.prog 105 C9 (Q13 R) E w := by
  obtain ⟨raw0, hq0, h1⟩ := W.asSlice_elim h
  obtain ⟨kinds4, hq4, h2⟩ := W.asSlice_elim h1
  obtain ⟨vals11, hq11, h3⟩ := W.asSlice_elim h2
  obtain ⟨turned12, hq12, h4⟩ := W.asSlice_elim h3
  obtain ⟨r13, hq13, h5⟩ := W.asPtr_elim h4
  exact fun a ha => W.WP.at (E := [(0, raw0.v), (4, kinds4.v), (11, vals11.v), (12, turned12.v), (13, .pointer r13)]) (W.WP.seq (c := C9) (x := C67) (y := C12) (by kernel_rfl) <| W.WP.reg (c := C67) (fun E w => KE_S9 E w R) (by kernel_rfl) (Eq.mp (by kernel_rfl) h5) fun _ _ a hA hK => (W.WP.seq (c := C12) (x := C13) (y := C17) (by kernel_rfl) (KE_S9_ok R _ _ hK)) a hA) (ha.cons hq0 (ha.cons hq4 (ha.cons hq11 (ha.cons hq12 (ha.cons hq13 ha.nil)))))
noncomputable def C68 : Code := W.Code.fst C6
noncomputable def C69 : Code := W.Code.snd C7
/-- law.go:139 -/
abbrev S6 (raw0 kinds4 vals11 turned12 : W.Sl) (r13 : Option Addr) (w : World) (R : W.Post) : Prop :=
  W.sel r13.isNone (S7  w R) (S8 raw0 kinds4 vals11 turned12 r13 w R)
def KE_S6 (E : W.Env) (w : World) (R : W.Post) : Prop := W.asSlice (W.Env.get? E 0) fun raw0 => W.asSlice (W.Env.get? E 4) fun kinds4 => W.asSlice (W.Env.get? E 11) fun vals11 => W.asSlice (W.Env.get? E 12) fun turned12 => W.asPtr (W.Env.get? E 13) fun r13 => S6 raw0 kinds4 vals11 turned12 r13 w R
theorem KE_S6_ok (R : W.Post) (E : W.Env) (w : World) (h : KE_S6 E w R) : W.WP Try.prog 105 C6 (Q0 R) E w := by
  obtain ⟨raw0, hq0, h1⟩ := W.asSlice_elim h
  obtain ⟨kinds4, hq4, h2⟩ := W.asSlice_elim h1
  obtain ⟨vals11, hq11, h3⟩ := W.asSlice_elim h2
  obtain ⟨turned12, hq12, h4⟩ := W.asSlice_elim h3
  obtain ⟨r13, hq13, h5⟩ := W.asPtr_elim h4
  exact fun a ha => W.WP.at (E := [(0, raw0.v), (4, kinds4.v), (11, vals11.v), (12, turned12.v), (13, .pointer r13)]) (W.WP.seq (c := C6) (x := C68) (y := C7) (by kernel_rfl) <| W.WP.reg (c := C68) (fun E w => W.condK (W.Env.val E (.tmp 35)) (KE_S7 E w R) (KE_S8 E w R)) (by kernel_rfl) (Eq.mp (by kernel_rfl) h5) fun _ _ a hA hK => (W.WP.condK (c := C7) (x := C8) (y := C69) (o := .tmp 35) (by kernel_rfl) (fun hK => (KE_S7_ok R _ _ hK)) (fun hK => (W.WP.skip (c := C69) (by kernel_rfl) fun a hA => (KE_S8_ok R _ _ hK) a hA)) hK) a hA) (ha.cons hq0 (ha.cons hq4 (ha.cons hq11 (ha.cons hq12 (ha.cons hq13 ha.nil)))))
noncomputable def C70 : Code := W.Code.fst C4
/-- law.go:138 -/
abbrev S5 (raw0 kinds4 vals11 turned12 : W.Sl) (w : World) (R : W.Post) : Prop :=
  Calls Try.prog n_wire_Read #[turned12.v] w fun r_ w1 => ∃ t33 : Option Addr, r_ = .returned (.pointer t33) ∧ 
  S6 raw0 kinds4 vals11 turned12 t33 w1 R
def KE_S5 (E : W.Env) (w : World) (R : W.Post) : Prop := W.asSlice (W.Env.get? E 0) fun raw0 => W.asSlice (W.Env.get? E 4) fun kinds4 => W.asSlice (W.Env.get? E 11) fun vals11 => W.asSlice (W.Env.get? E 12) fun turned12 => S5 raw0 kinds4 vals11 turned12 w R
theorem KE_S5_ok (R : W.Post) (E : W.Env) (w : World) (h : KE_S5 E w R) : W.WP Try.prog 105 C4 (Q13 R) E w := by
  obtain ⟨raw0, hq0, h1⟩ := W.asSlice_elim h
  obtain ⟨kinds4, hq4, h2⟩ := W.asSlice_elim h1
  obtain ⟨vals11, hq11, h3⟩ := W.asSlice_elim h2
  obtain ⟨turned12, hq12, h4⟩ := W.asSlice_elim h3
  exact fun a ha => W.WP.at (E := [(0, raw0.v), (4, kinds4.v), (11, vals11.v), (12, turned12.v)]) (W.WP.seq (c := C4) (x := C70) (y := C5) (by kernel_rfl) <| W.WP.reg (c := C70) (fun E w => KE_S6 E w R) (by kernel_rfl) (Eq.mp (by kernel_rfl) h4) fun _ _ a hA hK => (W.WP.seq (c := C5) (x := C6) (y := C9) (by kernel_rfl) (KE_S6_ok R _ _ hK)) a hA) (ha.cons hq0 (ha.cons hq4 (ha.cons hq11 (ha.cons hq12 ha.nil))))
noncomputable def C71 : Code := W.Code.fst C3
noncomputable def C72 : Code := W.Code.snd C71
noncomputable def C73 : Code := W.Code.fst C72
abbrev Q16 (R : W.Post) : Exit → Act → World → Prop := (Exit.then (Code.wp Try.prog C4 (bodyPost Try.prog Try.f9 R)) (bodyPost Try.prog Try.f9 R))
/-- law.go:136 -/
abbrev S4 (raw0 : W.Sl) (at2 c3 : Int) (kinds4 vals11 turned12 : W.Sl) (w : World) (R : W.Post) : Prop :=
  Calls Try.prog n_enthymemeref01_Around #[.int .i64 at2, .int .i64 ((turned12.n : Nat) : Int)] w fun r_ w1 => ∃ t29 : Int, r_ = .returned (.int .i64 t29) ∧ 
  (0 : Int) ≤ t29 ∧ t29 < ((turned12.n : Nat) : Int) ∧ W.optP turned12.a fun t31_p => (w1.cell? (t31_p.add (Int.toNat t29 * 1))).isSome = true ∧ w1.frozen? (t31_p.add (Int.toNat t29 * 1)) = false ∧ let w2 := w1.setCell (t31_p.add (Int.toNat t29 * 1)) (.int .u8 c3)
  S5 raw0 kinds4 vals11 turned12 w2 R
def KE_S4 (E : W.Env) (w : World) (R : W.Post) : Prop := W.asSlice (W.Env.get? E 0) fun raw0 => W.asInt .i64 (W.Env.get? E 2) fun at2 => W.asInt .u8 (W.Env.get? E 3) fun c3 => W.asSlice (W.Env.get? E 4) fun kinds4 => W.asSlice (W.Env.get? E 11) fun vals11 => W.asSlice (W.Env.get? E 12) fun turned12 => S4 raw0 at2 c3 kinds4 vals11 turned12 w R
theorem KE_S4_ok (R : W.Post) (E : W.Env) (w : World) (h : KE_S4 E w R) : W.WP Try.prog 105 C73 (Q16 R) E w := by
  obtain ⟨raw0, hq0, h1⟩ := W.asSlice_elim h
  obtain ⟨at2, hq2, h2⟩ := W.asInt_elim h1
  obtain ⟨c3, hq3, h3⟩ := W.asInt_elim h2
  obtain ⟨kinds4, hq4, h4⟩ := W.asSlice_elim h3
  obtain ⟨vals11, hq11, h5⟩ := W.asSlice_elim h4
  obtain ⟨turned12, hq12, h6⟩ := W.asSlice_elim h5
  exact fun a ha => W.WP.at (E := [(0, raw0.v), (2, .int .i64 at2), (3, .int .u8 c3), (4, kinds4.v), (11, vals11.v), (12, turned12.v)]) (W.WP.reg (c := C73) (fun E w => KE_S5 E w R) (by kernel_rfl) (Eq.mp (by kernel_rfl) h6) fun _ _ a hA hK => (KE_S5_ok R _ _ hK) a hA) (ha.cons hq0 (ha.cons hq2 (ha.cons hq3 (ha.cons hq4 (ha.cons hq11 (ha.cons hq12 ha.nil))))))
noncomputable def C74 : Code := W.Code.fst C71
noncomputable def C75 : Code := W.Code.snd C72
/-- law.go:135 -/
abbrev S3 (raw0 : W.Sl) (at2 c3 : Int) (kinds4 vals11 turned12 : W.Sl) (w : World) (R : W.Post) : Prop :=
  W.sel (decide (((turned12.n : Nat) : Int) > 0)) (S4 raw0 at2 c3 kinds4 vals11 turned12 w R) (S5 raw0 kinds4 vals11 turned12 w R)
def KE_S3 (E : W.Env) (w : World) (R : W.Post) : Prop := W.asSlice (W.Env.get? E 0) fun raw0 => W.asInt .i64 (W.Env.get? E 2) fun at2 => W.asInt .u8 (W.Env.get? E 3) fun c3 => W.asSlice (W.Env.get? E 4) fun kinds4 => W.asSlice (W.Env.get? E 11) fun vals11 => W.asSlice (W.Env.get? E 12) fun turned12 => S3 raw0 at2 c3 kinds4 vals11 turned12 w R
theorem KE_S3_ok (R : W.Post) (E : W.Env) (w : World) (h : KE_S3 E w R) : W.WP Try.prog 105 C71 (Q16 R) E w := by
  obtain ⟨raw0, hq0, h1⟩ := W.asSlice_elim h
  obtain ⟨at2, hq2, h2⟩ := W.asInt_elim h1
  obtain ⟨c3, hq3, h3⟩ := W.asInt_elim h2
  obtain ⟨kinds4, hq4, h4⟩ := W.asSlice_elim h3
  obtain ⟨vals11, hq11, h5⟩ := W.asSlice_elim h4
  obtain ⟨turned12, hq12, h6⟩ := W.asSlice_elim h5
  exact fun a ha => W.WP.at (E := [(0, raw0.v), (2, .int .i64 at2), (3, .int .u8 c3), (4, kinds4.v), (11, vals11.v), (12, turned12.v)]) (W.WP.seq (c := C71) (x := C74) (y := C72) (by kernel_rfl) <| W.WP.reg (c := C74) (fun E w => W.condK (W.Env.val E (.tmp 24)) (KE_S4 E w R) (KE_S5 E w R)) (by kernel_rfl) (Eq.mp (by kernel_rfl) h6) fun _ _ a hA hK => (W.WP.condK (c := C72) (x := C73) (y := C75) (o := .tmp 24) (by kernel_rfl) (fun hK => (KE_S4_ok R _ _ hK)) (fun hK => (W.WP.skip (c := C75) (by kernel_rfl) fun a hA => (KE_S5_ok R _ _ hK) a hA)) hK) a hA) (ha.cons hq0 (ha.cons hq2 (ha.cons hq3 (ha.cons hq4 (ha.cons hq11 (ha.cons hq12 ha.nil))))))
noncomputable def C76 : Code := W.Code.fst C2
/-- law.go:134 -/
abbrev S2 (raw0 : W.Sl) (at2 c3 : Int) (kinds4 vals11 : W.Sl) (w : World) (R : W.Post) : Prop :=
  Calls Try.prog n_enthymemelaw02_encode #[vals11.v] w fun r_ w1 => ∃ t21 : W.Sl, r_ = .returned (t21.v) ∧ 
  S3 raw0 at2 c3 kinds4 vals11 t21 w1 R
def KE_S2 (E : W.Env) (w : World) (R : W.Post) : Prop := W.asSlice (W.Env.get? E 0) fun raw0 => W.asInt .i64 (W.Env.get? E 2) fun at2 => W.asInt .u8 (W.Env.get? E 3) fun c3 => W.asSlice (W.Env.get? E 4) fun kinds4 => W.asSlice (W.Env.get? E 11) fun vals11 => S2 raw0 at2 c3 kinds4 vals11 w R
theorem KE_S2_ok (R : W.Post) (E : W.Env) (w : World) (h : KE_S2 E w R) : W.WP Try.prog 105 C2 (Q13 R) E w := by
  obtain ⟨raw0, hq0, h1⟩ := W.asSlice_elim h
  obtain ⟨at2, hq2, h2⟩ := W.asInt_elim h1
  obtain ⟨c3, hq3, h3⟩ := W.asInt_elim h2
  obtain ⟨kinds4, hq4, h4⟩ := W.asSlice_elim h3
  obtain ⟨vals11, hq11, h5⟩ := W.asSlice_elim h4
  exact fun a ha => W.WP.at (E := [(0, raw0.v), (2, .int .i64 at2), (3, .int .u8 c3), (4, kinds4.v), (11, vals11.v)]) (W.WP.seq (c := C2) (x := C76) (y := C3) (by kernel_rfl) <| W.WP.reg (c := C76) (fun E w => KE_S3 E w R) (by kernel_rfl) (Eq.mp (by kernel_rfl) h5) fun _ _ a hA hK => (W.WP.seq (c := C3) (x := C71) (y := C4) (by kernel_rfl) (KE_S3_ok R _ _ hK)) a hA) (ha.cons hq0 (ha.cons hq2 (ha.cons hq3 (ha.cons hq4 (ha.cons hq11 ha.nil)))))
noncomputable def C77 : Code := W.Code.fst C1
/-- law.go:133 -/
abbrev S1 (raw0 l1 : W.Sl) (at2 c3 : Int) (kinds4 : W.Sl) (w : World) (R : W.Post) : Prop :=
  Calls Try.prog n_enthymemeref02_Vals #[l1.v] w fun r_ w1 => ∃ t19 : W.Sl, r_ = .returned (t19.v) ∧ 
  S2 raw0 at2 c3 kinds4 t19 w1 R
def KE_S1 (E : W.Env) (w : World) (R : W.Post) : Prop := W.asSlice (W.Env.get? E 0) fun raw0 => W.asSlice (W.Env.get? E 1) fun l1 => W.asInt .i64 (W.Env.get? E 2) fun at2 => W.asInt .u8 (W.Env.get? E 3) fun c3 => W.asSlice (W.Env.get? E 4) fun kinds4 => S1 raw0 l1 at2 c3 kinds4 w R
theorem KE_S1_ok (R : W.Post) (E : W.Env) (w : World) (h : KE_S1 E w R) : W.WP Try.prog 105 C1 (Q13 R) E w := by
  obtain ⟨raw0, hq0, h1⟩ := W.asSlice_elim h
  obtain ⟨l1, hq1, h2⟩ := W.asSlice_elim h1
  obtain ⟨at2, hq2, h3⟩ := W.asInt_elim h2
  obtain ⟨c3, hq3, h4⟩ := W.asInt_elim h3
  obtain ⟨kinds4, hq4, h5⟩ := W.asSlice_elim h4
  exact fun a ha => W.WP.at (E := [(0, raw0.v), (1, l1.v), (2, .int .i64 at2), (3, .int .u8 c3), (4, kinds4.v)]) (W.WP.seq (c := C1) (x := C77) (y := C2) (by kernel_rfl) <| W.WP.reg (c := C77) (fun E w => KE_S2 E w R) (by kernel_rfl) (Eq.mp (by kernel_rfl) h5) fun _ _ a hA hK => (KE_S2_ok R _ _ hK) a hA) (ha.cons hq0 (ha.cons hq1 (ha.cons hq2 (ha.cons hq3 (ha.cons hq4 ha.nil)))))
noncomputable def C78 : Code := W.Code.fst C0
/-- law.go:132 -/
abbrev S0 (raw0 l1 : W.Sl) (at2 c3 : Int) (kinds4 : W.Sl) (w : World) (R : W.Post) : Prop :=
  S1 raw0 l1 at2 c3 kinds4 w R
def KE_S0 (E : W.Env) (w : World) (R : W.Post) : Prop := W.asSlice (W.Env.get? E 0) fun raw0 => W.asSlice (W.Env.get? E 1) fun l1 => W.asInt .i64 (W.Env.get? E 2) fun at2 => W.asInt .u8 (W.Env.get? E 3) fun c3 => W.asSlice (W.Env.get? E 4) fun kinds4 => S0 raw0 l1 at2 c3 kinds4 w R
theorem KE_S0_ok (R : W.Post) (E : W.Env) (w : World) (h : KE_S0 E w R) : W.WP Try.prog 105 C0 (Q13 R) E w := by
  obtain ⟨raw0, hq0, h1⟩ := W.asSlice_elim h
  obtain ⟨l1, hq1, h2⟩ := W.asSlice_elim h1
  obtain ⟨at2, hq2, h3⟩ := W.asInt_elim h2
  obtain ⟨c3, hq3, h4⟩ := W.asInt_elim h3
  obtain ⟨kinds4, hq4, h5⟩ := W.asSlice_elim h4
  exact fun a ha => W.WP.at (E := [(0, raw0.v), (1, l1.v), (2, .int .i64 at2), (3, .int .u8 c3), (4, kinds4.v)]) (W.WP.seq (c := C0) (x := C78) (y := C1) (by kernel_rfl) <| W.WP.reg (c := C78) (fun E w => KE_S1 E w R) (by kernel_rfl) (Eq.mp (by kernel_rfl) h5) fun _ _ a hA hK => (KE_S1_ok R _ _ hK) a hA) (ha.cons hq0 (ha.cons hq1 (ha.cons hq2 (ha.cons hq3 (ha.cons hq4 ha.nil)))))
/-- enthymeme/enthymemelaw02.WireOne -/
theorem ok (raw0 l1 : W.Sl) (at2 c3 : Int) (kinds4 : W.Sl) (w : World) (R : W.Post) (h : S0 raw0 l1 at2 c3 kinds4 w R) : Calls Try.prog n_enthymemelaw02_WireOne #[raw0.v, l1.v, .int .i64 at2, .int .u8 c3, kinds4.v] w R :=
  W.calls_of_WP' (fn := Try.f9) (c := C0) (args := [raw0.v, l1.v, .int .i64 at2, .int .u8 c3, kinds4.v]) (by kernel_rfl) (by kernel_rfl) (by kernel_rfl) (KE_S0_ok R _ _ (Eq.mp (by kernel_rfl) h))
end enthymemelaw02_WireOne
end Go.Proofs.Ytjmnpdacalbpkaa
