/- Printed by a program of ours (vcgen.py) from the dump: the conditions of the functions, and that they suffice. -/
import Derived.Test.YtpfomlenbhocpaaVN
set_option linter.unusedVariables false
set_option maxRecDepth 100000
namespace Go.Proofs.Ytpfomlenbhocpaa
open Go
namespace enthymemelaw38_ChannelDetects
noncomputable def C0 : Code := (Try.f4.body).getD .skip
noncomputable def C1 : Code := W.Code.snd C0
noncomputable def C2 : Code := W.Code.snd C1
noncomputable def C3 : Code := W.Code.snd C2
noncomputable def C4 : Code := W.Code.snd C3
noncomputable def C5 : Code := W.Code.fst C4
noncomputable def C6 : Code := W.Code.snd C5
noncomputable def C7 : Code := W.Code.fst C6
noncomputable def C8 : Code := W.Code.snd C4
abbrev Q0 (R : W.Post) : Exit → Act → World → Prop := (Exit.then (W.wpx Try.prog (W.cx 101) C8 (bodyPost Try.prog Try.f4 R)) (bodyPost Try.prog Try.f4 R))
noncomputable def C9 : Code := W.Code.fst C7
noncomputable def C10 : Code := W.Code.snd C7
/-- law.go:288 -/
abbrev S5  (w : World) (R : W.Post) : Prop :=
  R (.returned (.bool false)) w
def KE_S5 (E : W.Env) (w : World) (R : W.Post) : Prop := S5  w R
theorem KE_S5_ok (R : W.Post) (E : W.Env) (w : World) (h : KE_S5 E w R) : W.WP Try.prog (W.cx 101) C7 (Q0 R) E w := by
  exact fun a ha => W.WP.at (n := (W.cx 101)) (E := []) (W.WP.seq (c := C7) (x := C9) (y := C10) (by kernel_rfl) <| W.WP.reg (c := C9) (fun E w => W.retVC Try.prog Try.f4 E w (fun v => R (.returned v) w)) (by kernel_rfl) (Eq.mp (by kernel_rfl) h) fun _ _ a hA hK => (W.WP.ret (c := C10) (by kernel_rfl) fun a hA => W.retVC_sound hA hK) a hA) ha.nil
noncomputable def C11 : Code := W.Code.snd C8
noncomputable def C12 : Code := W.Code.snd C11
noncomputable def C13 : Code := W.Code.snd C12
noncomputable def C14 : Code := W.Code.snd C13
noncomputable def C15 : Code := W.Code.snd C14
noncomputable def C16 : Code := W.Code.fst C15
noncomputable def C17 : Code := W.Code.snd C16
noncomputable def C18 : Code := W.Code.fst C17
noncomputable def C19 : Code := W.Code.snd C15
abbrev Q1 (R : W.Post) : Exit → Act → World → Prop := (Exit.then (W.wpx Try.prog (W.cx 101) C19 (bodyPost Try.prog Try.f4 R)) (bodyPost Try.prog Try.f4 R))
noncomputable def C20 : Code := W.Code.fst C18
noncomputable def C21 : Code := W.Code.snd C18
/-- law.go:296 -/
abbrev S12  (w : World) (R : W.Post) : Prop :=
  R (.returned (.bool false)) w
def KE_S12 (E : W.Env) (w : World) (R : W.Post) : Prop := S12  w R
theorem KE_S12_ok (R : W.Post) (E : W.Env) (w : World) (h : KE_S12 E w R) : W.WP Try.prog (W.cx 101) C18 (Q1 R) E w := by
  exact fun a ha => W.WP.at (n := (W.cx 101)) (E := []) (W.WP.seq (c := C18) (x := C20) (y := C21) (by kernel_rfl) <| W.WP.reg (c := C20) (fun E w => W.retVC Try.prog Try.f4 E w (fun v => R (.returned v) w)) (by kernel_rfl) (Eq.mp (by kernel_rfl) h) fun _ _ a hA hK => (W.WP.ret (c := C21) (by kernel_rfl) fun a hA => W.retVC_sound hA hK) a hA) ha.nil
noncomputable def C22 : Code := W.Code.snd C19
noncomputable def C23 : Code := W.Code.snd C22
noncomputable def C24 : Code := W.Code.snd C23
abbrev Q2 (R : W.Post) : Exit → Act → World → Prop := (bodyPost Try.prog Try.f4 R)
noncomputable def C25 : Code := W.Code.fst C24
noncomputable def C26 : Code := W.Code.snd C24
/-- law.go:301 -/
abbrev S16 (f21 : Int) (w : World) (R : W.Post) : Prop :=
  W.sel (f21 == 21) (Calls Try.prog n_enthymemelaw38_lives #[] w fun r_ w1 => ∃ t99 : Bool, r_ = .returned (.bool t99) ∧ 
  R (.returned (.bool t99)) w1) (W.sel (f21 == 2) (Calls Try.prog n_enthymemelaw38_lives #[] w fun r_ w2 => ∃ t99 : Bool, r_ = .returned (.bool t99) ∧ 
  R (.returned (.bool t99)) w2) (R (.returned (.bool false)) w))
def KE_S16 (E : W.Env) (w : World) (R : W.Post) : Prop := W.asInt .i64 (W.Env.get? E 21) fun f21 => S16 f21 w R
theorem KE_S16_ok (R : W.Post) (E : W.Env) (w : World) (h : KE_S16 E w R) : W.WP Try.prog (W.cx 101) C24 (Q2 R) E w := by
  obtain ⟨f21, hq21, h1⟩ := W.asInt_elim h
  exact fun a ha => W.WP.at (n := (W.cx 101)) (E := [(21, .int .i64 f21)]) (W.WP.seq (c := C24) (x := C25) (y := C26) (by kernel_rfl) <| W.WP.reg (c := C25) (fun E w => W.retVC Try.prog Try.f4 E w (fun v => R (.returned v) w)) (by kernel_rfl) (Eq.mp (by kernel_rfl) h1) fun _ _ a hA hK => (W.WP.ret (c := C26) (by kernel_rfl) fun a hA => W.retVC_sound hA hK) a hA) (ha.cons hq21 ha.nil)
noncomputable def C27 : Code := W.Code.fst C23
/-- law.go:300 -/
abbrev S15 (x12 : W.Sl) (w : World) (R : W.Post) : Prop :=
  Calls Try.prog n_channel_Decode #[x12.v] w fun r_ w1 => ∃ t89_0_0 : Int, ∃ t89_0_1 : Int, ∃ t89_0_2 : W.Sl, ∃ t89_1 : Int, r_ = .returned (.tuple #[.agg #[.int .i64 t89_0_0, .int .i64 t89_0_1, t89_0_2.v], .int .i64 t89_1]) ∧ 
  let w2 := w1.alloc (.cells #[.int .i64 0, .int .i64 0, .slice none 0 0] ty_channel_Packet)
  (w2.cell? (Addr.mk w1.heap.size 0 none)).isSome = true ∧ w2.frozen? (Addr.mk w1.heap.size 0 none) = false ∧ let w3 := w2.setCell (Addr.mk w1.heap.size 0 none) (.int .i64 t89_0_0)
  (w3.cell? ((Addr.mk w1.heap.size 0 none).add 1)).isSome = true ∧ w3.frozen? ((Addr.mk w1.heap.size 0 none).add 1) = false ∧ let w4 := w3.setCell ((Addr.mk w1.heap.size 0 none).add 1) (.int .i64 t89_0_1)
  (w4.cell? ((Addr.mk w1.heap.size 0 none).add 2)).isSome = true ∧ w4.frozen? ((Addr.mk w1.heap.size 0 none).add 2) = false ∧ let w5 := w4.setCell ((Addr.mk w1.heap.size 0 none).add 2) (t89_0_2.v)
  S16 t89_1 w5 R
def KE_S15 (E : W.Env) (w : World) (R : W.Post) : Prop := W.asSlice (W.Env.get? E 12) fun x12 => S15 x12 w R
theorem KE_S15_ok (R : W.Post) (E : W.Env) (w : World) (h : KE_S15 E w R) : W.WP Try.prog (W.cx 101) C23 (Q2 R) E w := by
  obtain ⟨x12, hq12, h1⟩ := W.asSlice_elim h
  exact fun a ha => W.WP.at (n := (W.cx 101)) (E := [(12, x12.v)]) (W.WP.seq (c := C23) (x := C27) (y := C24) (by kernel_rfl) <| W.WP.reg (c := C27) (fun E w => KE_S16 E w R) (by kernel_rfl) (Eq.mp (by kernel_rfl) h1) fun _ _ a hA hK => (KE_S16_ok R _ _ hK) a hA) (ha.cons hq12 ha.nil)
noncomputable def C28 : Code := W.Code.fst C22
/-- law.go:299 -/
abbrev S14 (by4 : Int) (x12 : W.Sl) (k19 : Int) (w : World) (R : W.Post) : Prop :=
  (0 : Int) ≤ k19 ∧ k19 < ((x12.n : Nat) : Int) ∧ W.optP x12.a fun t80_p => ∃ t81 : Int, w.cell? (t80_p.add (Int.toNat k19 * 1)) = some (.int .u8 t81) ∧ 
  (0 : Int) ≤ k19 ∧ k19 < ((x12.n : Nat) : Int) ∧ W.optP x12.a fun t86_p => (w.cell? (t86_p.add (Int.toNat k19 * 1))).isSome = true ∧ w.frozen? (t86_p.add (Int.toNat k19 * 1)) = false ∧ let w1 := w.setCell (t86_p.add (Int.toNat k19 * 1)) (.int .u8 (W.bXor .u8 t81 (IntKind.wrap .u8 (1 + (Int.tmod by4 255)))))
  S15 x12 w1 R
def KE_S14 (E : W.Env) (w : World) (R : W.Post) : Prop := W.asInt .u8 (W.Env.get? E 4) fun by4 => W.asSlice (W.Env.get? E 12) fun x12 => W.asInt .i64 (W.Env.get? E 19) fun k19 => S14 by4 x12 k19 w R
theorem KE_S14_ok (R : W.Post) (E : W.Env) (w : World) (h : KE_S14 E w R) : W.WP Try.prog (W.cx 101) C22 (Q2 R) E w := by
  obtain ⟨by4, hq4, h1⟩ := W.asInt_elim h
  obtain ⟨x12, hq12, h2⟩ := W.asSlice_elim h1
  obtain ⟨k19, hq19, h3⟩ := W.asInt_elim h2
  exact fun a ha => W.WP.at (n := (W.cx 101)) (E := [(4, .int .u8 by4), (12, x12.v), (19, .int .i64 k19)]) (W.WP.seq (c := C22) (x := C28) (y := C23) (by kernel_rfl) <| W.WP.reg (c := C28) (fun E w => KE_S15 E w R) (by kernel_rfl) (Eq.mp (by kernel_rfl) h3) fun _ _ a hA hK => (KE_S15_ok R _ _ hK) a hA) (ha.cons hq4 (ha.cons hq12 (ha.cons hq19 ha.nil)))
noncomputable def C29 : Code := W.Code.fst C19
/-- law.go:298 -/
abbrev S13 (at3 by4 : Int) (x12 : W.Sl) (ahead18 : Int) (w : World) (R : W.Post) : Prop :=
  Calls Try.prog n_enthymemeref01_Around #[.int .i64 at3, .int .i64 (IntKind.wrap .i64 (((x12.n : Nat) : Int) - ahead18))] w fun r_ w1 => ∃ t74 : Int, r_ = .returned (.int .i64 t74) ∧ 
  S14 by4 x12 (IntKind.wrap .i64 (ahead18 + t74)) w1 R
def KE_S13 (E : W.Env) (w : World) (R : W.Post) : Prop := W.asInt .i64 (W.Env.get? E 3) fun at3 => W.asInt .u8 (W.Env.get? E 4) fun by4 => W.asSlice (W.Env.get? E 12) fun x12 => W.asInt .i64 (W.Env.get? E 18) fun ahead18 => S13 at3 by4 x12 ahead18 w R
theorem KE_S13_ok (R : W.Post) (E : W.Env) (w : World) (h : KE_S13 E w R) : W.WP Try.prog (W.cx 101) C19 (Q2 R) E w := by
  obtain ⟨at3, hq3, h1⟩ := W.asInt_elim h
  obtain ⟨by4, hq4, h2⟩ := W.asInt_elim h1
  obtain ⟨x12, hq12, h3⟩ := W.asSlice_elim h2
  obtain ⟨ahead18, hq18, h4⟩ := W.asInt_elim h3
  exact fun a ha => W.WP.at (n := (W.cx 101)) (E := [(3, .int .i64 at3), (4, .int .u8 by4), (12, x12.v), (18, .int .i64 ahead18)]) (W.WP.seq (c := C19) (x := C29) (y := C22) (by kernel_rfl) <| W.WP.reg (c := C29) (fun E w => KE_S14 E w R) (by kernel_rfl) (Eq.mp (by kernel_rfl) h4) fun _ _ a hA hK => (KE_S14_ok R _ _ hK) a hA) (ha.cons hq3 (ha.cons hq4 (ha.cons hq12 (ha.cons hq18 ha.nil))))
noncomputable def C30 : Code := W.Code.fst C16
noncomputable def C31 : Code := W.Code.snd C17
/-- law.go:295 -/
abbrev S11 (at3 by4 : Int) (x12 : W.Sl) (r14 : Option Addr) (core15 : W.Sl) (sum16 ahead18 : Int) (w : World) (R : W.Post) : Prop :=
  Calls Try.prog n_wire_Reader_End #[.pointer r14] w fun r_ w1 => ∃ t54 : Int, r_ = .returned (.int .i64 t54) ∧ 
  W.sel (t54 != 0) (S12  w1 R) (Calls Try.prog n_hash_Bytes #[.string (ByteArray.mk #[112, 97, 114, 99, 101, 108]), core15.v] w1 fun r_ w2 => ∃ t59 : Int, r_ = .returned (.int .u64 t59) ∧ 
  W.sel (sum16 != t59) (S12  w2 R) (W.sel (decide (((x12.n : Nat) : Int) ≤ ahead18)) (S12  w2 R) (S13 at3 by4 x12 ahead18 w2 R)))
def KE_S11 (E : W.Env) (w : World) (R : W.Post) : Prop := W.asInt .i64 (W.Env.get? E 3) fun at3 => W.asInt .u8 (W.Env.get? E 4) fun by4 => W.asSlice (W.Env.get? E 12) fun x12 => W.asPtr (W.Env.get? E 14) fun r14 => W.asSlice (W.Env.get? E 15) fun core15 => W.asInt .u64 (W.Env.get? E 16) fun sum16 => W.asInt .i64 (W.Env.get? E 18) fun ahead18 => S11 at3 by4 x12 r14 core15 sum16 ahead18 w R
theorem KE_S11_ok (R : W.Post) (E : W.Env) (w : World) (h : KE_S11 E w R) : W.WP Try.prog (W.cx 101) C16 (Q1 R) E w := by
  obtain ⟨at3, hq3, h1⟩ := W.asInt_elim h
  obtain ⟨by4, hq4, h2⟩ := W.asInt_elim h1
  obtain ⟨x12, hq12, h3⟩ := W.asSlice_elim h2
  obtain ⟨r14, hq14, h4⟩ := W.asPtr_elim h3
  obtain ⟨core15, hq15, h5⟩ := W.asSlice_elim h4
  obtain ⟨sum16, hq16, h6⟩ := W.asInt_elim h5
  obtain ⟨ahead18, hq18, h7⟩ := W.asInt_elim h6
  exact fun a ha => W.WP.at (n := (W.cx 101)) (E := [(3, .int .i64 at3), (4, .int .u8 by4), (12, x12.v), (14, .pointer r14), (15, core15.v), (16, .int .u64 sum16), (18, .int .i64 ahead18)]) (W.WP.seq (c := C16) (x := C30) (y := C17) (by kernel_rfl) <| W.WP.reg (c := C30) (fun E w => W.condK (W.Env.val E (.tmp 67)) (KE_S12 E w R) (KE_S13 E w R)) (by kernel_rfl) (Eq.mp (by kernel_rfl) h7) fun _ _ a hA hK => (W.WP.condK (c := C17) (x := C18) (y := C31) (o := .tmp 67) (by kernel_rfl) (fun hK => (KE_S12_ok R _ _ hK)) (fun hK => (W.WP.skip (c := C31) (by kernel_rfl) fun a hA => (KE_S13_ok R _ _ hK) a hA)) hK) a hA) (ha.cons hq3 (ha.cons hq4 (ha.cons hq12 (ha.cons hq14 (ha.cons hq15 (ha.cons hq16 (ha.cons hq18 ha.nil)))))))
noncomputable def C32 : Code := W.Code.fst C14
/-- law.go:294 -/
abbrev S10 (at3 by4 : Int) (x12 : W.Sl) (r14 : Option Addr) (core15 : W.Sl) (sum16 : Int) (wv17 : Addr) (w : World) (R : W.Post) : Prop :=
  Calls Try.prog n_wire_Writer_Done #[.pointer (some wv17)] w fun r_ w1 => ∃ t51 : W.Sl, r_ = .returned (t51.v) ∧ 
  S11 at3 by4 x12 r14 core15 sum16 ((t51.n : Nat) : Int) w1 R
def KE_S10 (E : W.Env) (w : World) (R : W.Post) : Prop := W.asInt .i64 (W.Env.get? E 3) fun at3 => W.asInt .u8 (W.Env.get? E 4) fun by4 => W.asSlice (W.Env.get? E 12) fun x12 => W.asPtr (W.Env.get? E 14) fun r14 => W.asSlice (W.Env.get? E 15) fun core15 => W.asInt .u64 (W.Env.get? E 16) fun sum16 => W.asRef (W.Env.get? E 17) fun wv17 => S10 at3 by4 x12 r14 core15 sum16 wv17 w R
theorem KE_S10_ok (R : W.Post) (E : W.Env) (w : World) (h : KE_S10 E w R) : W.WP Try.prog (W.cx 101) C14 (Q2 R) E w := by
  obtain ⟨at3, hq3, h1⟩ := W.asInt_elim h
  obtain ⟨by4, hq4, h2⟩ := W.asInt_elim h1
  obtain ⟨x12, hq12, h3⟩ := W.asSlice_elim h2
  obtain ⟨r14, hq14, h4⟩ := W.asPtr_elim h3
  obtain ⟨core15, hq15, h5⟩ := W.asSlice_elim h4
  obtain ⟨sum16, hq16, h6⟩ := W.asInt_elim h5
  obtain ⟨wv17, hq17, h7⟩ := W.asRef_elim h6
  exact fun a ha => W.WP.at (n := (W.cx 101)) (E := [(3, .int .i64 at3), (4, .int .u8 by4), (12, x12.v), (14, .pointer r14), (15, core15.v), (16, .int .u64 sum16), (17, .pointer (some wv17))]) (W.WP.seq (c := C14) (x := C32) (y := C15) (by kernel_rfl) <| W.WP.reg (c := C32) (fun E w => KE_S11 E w R) (by kernel_rfl) (Eq.mp (by kernel_rfl) h7) fun _ _ a hA hK => (W.WP.seq (c := C15) (x := C16) (y := C19) (by kernel_rfl) (KE_S11_ok R _ _ hK)) a hA) (ha.cons hq3 (ha.cons hq4 (ha.cons hq12 (ha.cons hq14 (ha.cons hq15 (ha.cons hq16 (ha.cons hq17 ha.nil)))))))
noncomputable def C33 : Code := W.Code.fst C13
/-- law.go:293 -/
abbrev S9 (at3 by4 : Int) (x12 : W.Sl) (r14 : Option Addr) (core15 : W.Sl) (sum16 : Int) (wv17 : Addr) (w : World) (R : W.Post) : Prop :=
  Calls Try.prog n_wire_Writer_Uint #[.pointer (some wv17), .int .u64 (IntKind.wrap .u64 ((core15.n : Nat) : Int))] w fun r_ w1 => r_ = .returned (.tuple #[]) ∧ 
  S10 at3 by4 x12 r14 core15 sum16 wv17 w1 R
def KE_S9 (E : W.Env) (w : World) (R : W.Post) : Prop := W.asInt .i64 (W.Env.get? E 3) fun at3 => W.asInt .u8 (W.Env.get? E 4) fun by4 => W.asSlice (W.Env.get? E 12) fun x12 => W.asPtr (W.Env.get? E 14) fun r14 => W.asSlice (W.Env.get? E 15) fun core15 => W.asInt .u64 (W.Env.get? E 16) fun sum16 => W.asRef (W.Env.get? E 17) fun wv17 => S9 at3 by4 x12 r14 core15 sum16 wv17 w R
theorem KE_S9_ok (R : W.Post) (E : W.Env) (w : World) (h : KE_S9 E w R) : W.WP Try.prog (W.cx 101) C13 (Q2 R) E w := by
  obtain ⟨at3, hq3, h1⟩ := W.asInt_elim h
  obtain ⟨by4, hq4, h2⟩ := W.asInt_elim h1
  obtain ⟨x12, hq12, h3⟩ := W.asSlice_elim h2
  obtain ⟨r14, hq14, h4⟩ := W.asPtr_elim h3
  obtain ⟨core15, hq15, h5⟩ := W.asSlice_elim h4
  obtain ⟨sum16, hq16, h6⟩ := W.asInt_elim h5
  obtain ⟨wv17, hq17, h7⟩ := W.asRef_elim h6
  exact fun a ha => W.WP.at (n := (W.cx 101)) (E := [(3, .int .i64 at3), (4, .int .u8 by4), (12, x12.v), (14, .pointer r14), (15, core15.v), (16, .int .u64 sum16), (17, .pointer (some wv17))]) (W.WP.seq (c := C13) (x := C33) (y := C14) (by kernel_rfl) <| W.WP.reg (c := C33) (fun E w => KE_S10 E w R) (by kernel_rfl) (Eq.mp (by kernel_rfl) h7) fun _ _ a hA hK => (KE_S10_ok R _ _ hK) a hA) (ha.cons hq3 (ha.cons hq4 (ha.cons hq12 (ha.cons hq14 (ha.cons hq15 (ha.cons hq16 (ha.cons hq17 ha.nil)))))))
noncomputable def C34 : Code := W.Code.fst C12
/-- law.go:292 -/
abbrev S8 (at3 by4 : Int) (x12 : W.Sl) (r14 : Option Addr) (core15 : W.Sl) (sum16 : Int) (w : World) (R : W.Post) : Prop :=
  let w1 := w.alloc (.cells #[.slice none 0 0] ty_wire_Writer)
  S9 at3 by4 x12 r14 core15 sum16 (Addr.mk w.heap.size 0 none) w1 R
def KE_S8 (E : W.Env) (w : World) (R : W.Post) : Prop := W.asInt .i64 (W.Env.get? E 3) fun at3 => W.asInt .u8 (W.Env.get? E 4) fun by4 => W.asSlice (W.Env.get? E 12) fun x12 => W.asPtr (W.Env.get? E 14) fun r14 => W.asSlice (W.Env.get? E 15) fun core15 => W.asInt .u64 (W.Env.get? E 16) fun sum16 => S8 at3 by4 x12 r14 core15 sum16 w R
theorem KE_S8_ok (R : W.Post) (E : W.Env) (w : World) (h : KE_S8 E w R) : W.WP Try.prog (W.cx 101) C12 (Q2 R) E w := by
  obtain ⟨at3, hq3, h1⟩ := W.asInt_elim h
  obtain ⟨by4, hq4, h2⟩ := W.asInt_elim h1
  obtain ⟨x12, hq12, h3⟩ := W.asSlice_elim h2
  obtain ⟨r14, hq14, h4⟩ := W.asPtr_elim h3
  obtain ⟨core15, hq15, h5⟩ := W.asSlice_elim h4
  obtain ⟨sum16, hq16, h6⟩ := W.asInt_elim h5
  exact fun a ha => W.WP.at (n := (W.cx 101)) (E := [(3, .int .i64 at3), (4, .int .u8 by4), (12, x12.v), (14, .pointer r14), (15, core15.v), (16, .int .u64 sum16)]) (W.WP.seq (c := C12) (x := C34) (y := C13) (by kernel_rfl) <| W.WP.reg (c := C34) (fun E w => KE_S9 E w R) (by kernel_rfl) (Eq.mp (by kernel_rfl) h6) fun _ _ a hA hK => (KE_S9_ok R _ _ hK) a hA) (ha.cons hq3 (ha.cons hq4 (ha.cons hq12 (ha.cons hq14 (ha.cons hq15 (ha.cons hq16 ha.nil))))))
noncomputable def C35 : Code := W.Code.fst C11
/-- law.go:291 -/
abbrev S7 (at3 by4 : Int) (x12 : W.Sl) (r14 : Option Addr) (core15 : W.Sl) (w : World) (R : W.Post) : Prop :=
  Calls Try.prog n_wire_Reader_Uint #[.pointer r14] w fun r_ w1 => ∃ t46 : Int, r_ = .returned (.int .u64 t46) ∧ 
  S8 at3 by4 x12 r14 core15 t46 w1 R
def KE_S7 (E : W.Env) (w : World) (R : W.Post) : Prop := W.asInt .i64 (W.Env.get? E 3) fun at3 => W.asInt .u8 (W.Env.get? E 4) fun by4 => W.asSlice (W.Env.get? E 12) fun x12 => W.asPtr (W.Env.get? E 14) fun r14 => W.asSlice (W.Env.get? E 15) fun core15 => S7 at3 by4 x12 r14 core15 w R
theorem KE_S7_ok (R : W.Post) (E : W.Env) (w : World) (h : KE_S7 E w R) : W.WP Try.prog (W.cx 101) C11 (Q2 R) E w := by
  obtain ⟨at3, hq3, h1⟩ := W.asInt_elim h
  obtain ⟨by4, hq4, h2⟩ := W.asInt_elim h1
  obtain ⟨x12, hq12, h3⟩ := W.asSlice_elim h2
  obtain ⟨r14, hq14, h4⟩ := W.asPtr_elim h3
  obtain ⟨core15, hq15, h5⟩ := W.asSlice_elim h4
  exact fun a ha => W.WP.at (n := (W.cx 101)) (E := [(3, .int .i64 at3), (4, .int .u8 by4), (12, x12.v), (14, .pointer r14), (15, core15.v)]) (W.WP.seq (c := C11) (x := C35) (y := C12) (by kernel_rfl) <| W.WP.reg (c := C35) (fun E w => KE_S8 E w R) (by kernel_rfl) (Eq.mp (by kernel_rfl) h5) fun _ _ a hA hK => (KE_S8_ok R _ _ hK) a hA) (ha.cons hq3 (ha.cons hq4 (ha.cons hq12 (ha.cons hq14 (ha.cons hq15 ha.nil)))))
noncomputable def C36 : Code := W.Code.fst C8
/-- law.go:290 -/
abbrev S6 (at3 by4 : Int) (x12 : W.Sl) (r14 : Option Addr) (w : World) (R : W.Post) : Prop :=
  Calls Try.prog n_wire_Reader_Raw #[.pointer r14] w fun r_ w1 => ∃ t44 : W.Sl, r_ = .returned (t44.v) ∧ 
  S7 at3 by4 x12 r14 t44 w1 R
def KE_S6 (E : W.Env) (w : World) (R : W.Post) : Prop := W.asInt .i64 (W.Env.get? E 3) fun at3 => W.asInt .u8 (W.Env.get? E 4) fun by4 => W.asSlice (W.Env.get? E 12) fun x12 => W.asPtr (W.Env.get? E 14) fun r14 => S6 at3 by4 x12 r14 w R
theorem KE_S6_ok (R : W.Post) (E : W.Env) (w : World) (h : KE_S6 E w R) : W.WP Try.prog (W.cx 101) C8 (Q2 R) E w := by
  obtain ⟨at3, hq3, h1⟩ := W.asInt_elim h
  obtain ⟨by4, hq4, h2⟩ := W.asInt_elim h1
  obtain ⟨x12, hq12, h3⟩ := W.asSlice_elim h2
  obtain ⟨r14, hq14, h4⟩ := W.asPtr_elim h3
  exact fun a ha => W.WP.at (n := (W.cx 101)) (E := [(3, .int .i64 at3), (4, .int .u8 by4), (12, x12.v), (14, .pointer r14)]) (W.WP.seq (c := C8) (x := C36) (y := C11) (by kernel_rfl) <| W.WP.reg (c := C36) (fun E w => KE_S7 E w R) (by kernel_rfl) (Eq.mp (by kernel_rfl) h4) fun _ _ a hA hK => (KE_S7_ok R _ _ hK) a hA) (ha.cons hq3 (ha.cons hq4 (ha.cons hq12 (ha.cons hq14 ha.nil))))
noncomputable def C37 : Code := W.Code.fst C5
noncomputable def C38 : Code := W.Code.snd C6
/-- law.go:287 -/
abbrev S4 (at3 by4 : Int) (x12 : W.Sl) (e13 : Int) (r14 : Option Addr) (w : World) (R : W.Post) : Prop :=
  W.sel (e13 != 0) (S5  w R) (W.sel r14.isNone (S5  w R) (S6 at3 by4 x12 r14 w R))
def KE_S4 (E : W.Env) (w : World) (R : W.Post) : Prop := W.asInt .i64 (W.Env.get? E 3) fun at3 => W.asInt .u8 (W.Env.get? E 4) fun by4 => W.asSlice (W.Env.get? E 12) fun x12 => W.asInt .i64 (W.Env.get? E 13) fun e13 => W.asPtr (W.Env.get? E 14) fun r14 => S4 at3 by4 x12 e13 r14 w R
theorem KE_S4_ok (R : W.Post) (E : W.Env) (w : World) (h : KE_S4 E w R) : W.WP Try.prog (W.cx 101) C5 (Q0 R) E w := by
  obtain ⟨at3, hq3, h1⟩ := W.asInt_elim h
  obtain ⟨by4, hq4, h2⟩ := W.asInt_elim h1
  obtain ⟨x12, hq12, h3⟩ := W.asSlice_elim h2
  obtain ⟨e13, hq13, h4⟩ := W.asInt_elim h3
  obtain ⟨r14, hq14, h5⟩ := W.asPtr_elim h4
  exact fun a ha => W.WP.at (n := (W.cx 101)) (E := [(3, .int .i64 at3), (4, .int .u8 by4), (12, x12.v), (13, .int .i64 e13), (14, .pointer r14)]) (W.WP.seq (c := C5) (x := C37) (y := C6) (by kernel_rfl) <| W.WP.reg (c := C37) (fun E w => W.condK (W.Env.val E (.tmp 42)) (KE_S5 E w R) (KE_S6 E w R)) (by kernel_rfl) (Eq.mp (by kernel_rfl) h5) fun _ _ a hA hK => (W.WP.condK (c := C6) (x := C7) (y := C38) (o := .tmp 42) (by kernel_rfl) (fun hK => (KE_S5_ok R _ _ hK)) (fun hK => (W.WP.skip (c := C38) (by kernel_rfl) fun a hA => (KE_S6_ok R _ _ hK) a hA)) hK) a hA) (ha.cons hq3 (ha.cons hq4 (ha.cons hq12 (ha.cons hq13 (ha.cons hq14 ha.nil)))))
noncomputable def C39 : Code := W.Code.fst C3
/-- law.go:286 -/
abbrev S3 (at3 by4 : Int) (x12 : W.Sl) (e13 : Int) (w : World) (R : W.Post) : Prop :=
  Calls Try.prog n_wire_Read #[x12.v] w fun r_ w1 => ∃ t36 : Option Addr, r_ = .returned (.pointer t36) ∧ 
  S4 at3 by4 x12 e13 t36 w1 R
def KE_S3 (E : W.Env) (w : World) (R : W.Post) : Prop := W.asInt .i64 (W.Env.get? E 3) fun at3 => W.asInt .u8 (W.Env.get? E 4) fun by4 => W.asSlice (W.Env.get? E 12) fun x12 => W.asInt .i64 (W.Env.get? E 13) fun e13 => S3 at3 by4 x12 e13 w R
theorem KE_S3_ok (R : W.Post) (E : W.Env) (w : World) (h : KE_S3 E w R) : W.WP Try.prog (W.cx 101) C3 (Q2 R) E w := by
  obtain ⟨at3, hq3, h1⟩ := W.asInt_elim h
  obtain ⟨by4, hq4, h2⟩ := W.asInt_elim h1
  obtain ⟨x12, hq12, h3⟩ := W.asSlice_elim h2
  obtain ⟨e13, hq13, h4⟩ := W.asInt_elim h3
  exact fun a ha => W.WP.at (n := (W.cx 101)) (E := [(3, .int .i64 at3), (4, .int .u8 by4), (12, x12.v), (13, .int .i64 e13)]) (W.WP.seq (c := C3) (x := C39) (y := C4) (by kernel_rfl) <| W.WP.reg (c := C39) (fun E w => KE_S4 E w R) (by kernel_rfl) (Eq.mp (by kernel_rfl) h4) fun _ _ a hA hK => (W.WP.seq (c := C4) (x := C5) (y := C8) (by kernel_rfl) (KE_S4_ok R _ _ hK)) a hA) (ha.cons hq3 (ha.cons hq4 (ha.cons hq12 (ha.cons hq13 ha.nil))))
noncomputable def C40 : Code := W.Code.fst C2
/-- law.go:285 -/
abbrev S2 (at3 by4 : Int) (p11 : Addr) (w : World) (R : W.Post) : Prop :=
  ∃ t31_0 : Int, ∃ t31_1 : Int, ∃ t31_2 : W.Sl, w.cell? (p11.add 0) = some (.int .i64 t31_0) ∧ w.cell? (p11.add 1) = some (.int .i64 t31_1) ∧ w.cell? (p11.add 2) = some (t31_2.v) ∧ 
  Calls Try.prog n_channel_Encode #[.agg #[.int .i64 t31_0, .int .i64 t31_1, t31_2.v]] w fun r_ w1 => ∃ t32_0 : W.Sl, ∃ t32_1 : Int, r_ = .returned (.tuple #[t32_0.v, .int .i64 t32_1]) ∧ 
  S3 at3 by4 t32_0 t32_1 w1 R
def KE_S2 (E : W.Env) (w : World) (R : W.Post) : Prop := W.asInt .i64 (W.Env.get? E 3) fun at3 => W.asInt .u8 (W.Env.get? E 4) fun by4 => W.asRef (W.Env.get? E 11) fun p11 => S2 at3 by4 p11 w R
theorem KE_S2_ok (R : W.Post) (E : W.Env) (w : World) (h : KE_S2 E w R) : W.WP Try.prog (W.cx 101) C2 (Q2 R) E w := by
  obtain ⟨at3, hq3, h1⟩ := W.asInt_elim h
  obtain ⟨by4, hq4, h2⟩ := W.asInt_elim h1
  obtain ⟨p11, hq11, h3⟩ := W.asRef_elim h2
  exact fun a ha => W.WP.at (n := (W.cx 101)) (E := [(3, .int .i64 at3), (4, .int .u8 by4), (11, .pointer (some p11))]) (W.WP.seq (c := C2) (x := C40) (y := C3) (by kernel_rfl) <| W.WP.reg (c := C40) (fun E w => KE_S3 E w R) (by kernel_rfl) (Eq.mp (by kernel_rfl) h3) fun _ _ a hA hK => (KE_S3_ok R _ _ hK) a hA) (ha.cons hq3 (ha.cons hq4 (ha.cons hq11 ha.nil)))
noncomputable def C41 : Code := W.Code.fst C1
/-- law.go:284 -/
abbrev S1 (seq0 ack1 : Int) (b2 : W.Sl) (at3 by4 : Int) (w : World) (R : W.Post) : Prop :=
  Calls Try.prog n_enthymemeref01_Around #[.int .i64 seq0, .int .i64 100000] w fun r_ w1 => ∃ t23 : Int, r_ = .returned (.int .i64 t23) ∧ 
  Calls Try.prog n_enthymemeref01_Around #[.int .i64 ack1, .int .i64 100000] w1 fun r_ w2 => ∃ t26 : Int, r_ = .returned (.int .i64 t26) ∧ 
  Calls Try.prog n_enthymemeref01_Few #[b2.v, .int .i64 200] w2 fun r_ w3 => ∃ t28 : W.Sl, r_ = .returned (t28.v) ∧ 
  let w4 := w3.alloc (.cells #[.int .i64 0, .int .i64 0, .slice none 0 0] ty_channel_Packet)
  (w4.cell? (Addr.mk w3.heap.size 0 none)).isSome = true ∧ w4.frozen? (Addr.mk w3.heap.size 0 none) = false ∧ let w5 := w4.setCell (Addr.mk w3.heap.size 0 none) (.int .i64 (IntKind.wrap .i64 (1 + t23)))
  (w5.cell? ((Addr.mk w3.heap.size 0 none).add 1)).isSome = true ∧ w5.frozen? ((Addr.mk w3.heap.size 0 none).add 1) = false ∧ let w6 := w5.setCell ((Addr.mk w3.heap.size 0 none).add 1) (.int .i64 t26)
  (w6.cell? ((Addr.mk w3.heap.size 0 none).add 2)).isSome = true ∧ w6.frozen? ((Addr.mk w3.heap.size 0 none).add 2) = false ∧ let w7 := w6.setCell ((Addr.mk w3.heap.size 0 none).add 2) (t28.v)
  S2 at3 by4 (Addr.mk w3.heap.size 0 none) w7 R
def KE_S1 (E : W.Env) (w : World) (R : W.Post) : Prop := W.asInt .i64 (W.Env.get? E 0) fun seq0 => W.asInt .i64 (W.Env.get? E 1) fun ack1 => W.asSlice (W.Env.get? E 2) fun b2 => W.asInt .i64 (W.Env.get? E 3) fun at3 => W.asInt .u8 (W.Env.get? E 4) fun by4 => S1 seq0 ack1 b2 at3 by4 w R
theorem KE_S1_ok (R : W.Post) (E : W.Env) (w : World) (h : KE_S1 E w R) : W.WP Try.prog (W.cx 101) C1 (Q2 R) E w := by
  obtain ⟨seq0, hq0, h1⟩ := W.asInt_elim h
  obtain ⟨ack1, hq1, h2⟩ := W.asInt_elim h1
  obtain ⟨b2, hq2, h3⟩ := W.asSlice_elim h2
  obtain ⟨at3, hq3, h4⟩ := W.asInt_elim h3
  obtain ⟨by4, hq4, h5⟩ := W.asInt_elim h4
  exact fun a ha => W.WP.at (n := (W.cx 101)) (E := [(0, .int .i64 seq0), (1, .int .i64 ack1), (2, b2.v), (3, .int .i64 at3), (4, .int .u8 by4)]) (W.WP.seq (c := C1) (x := C41) (y := C2) (by kernel_rfl) <| W.WP.reg (c := C41) (fun E w => KE_S2 E w R) (by kernel_rfl) (Eq.mp (by kernel_rfl) h5) fun _ _ a hA hK => (KE_S2_ok R _ _ hK) a hA) (ha.cons hq0 (ha.cons hq1 (ha.cons hq2 (ha.cons hq3 (ha.cons hq4 ha.nil)))))
noncomputable def C42 : Code := W.Code.fst C0
/-- law.go:283 -/
abbrev S0 (seq0 ack1 : Int) (b2 : W.Sl) (at3 by4 : Int) (w : World) (R : W.Post) : Prop :=
  S1 seq0 ack1 b2 at3 by4 w R
def KE_S0 (E : W.Env) (w : World) (R : W.Post) : Prop := W.asInt .i64 (W.Env.get? E 0) fun seq0 => W.asInt .i64 (W.Env.get? E 1) fun ack1 => W.asSlice (W.Env.get? E 2) fun b2 => W.asInt .i64 (W.Env.get? E 3) fun at3 => W.asInt .u8 (W.Env.get? E 4) fun by4 => S0 seq0 ack1 b2 at3 by4 w R
theorem KE_S0_ok (R : W.Post) (E : W.Env) (w : World) (h : KE_S0 E w R) : W.WP Try.prog (W.cx 101) C0 (Q2 R) E w := by
  obtain ⟨seq0, hq0, h1⟩ := W.asInt_elim h
  obtain ⟨ack1, hq1, h2⟩ := W.asInt_elim h1
  obtain ⟨b2, hq2, h3⟩ := W.asSlice_elim h2
  obtain ⟨at3, hq3, h4⟩ := W.asInt_elim h3
  obtain ⟨by4, hq4, h5⟩ := W.asInt_elim h4
  exact fun a ha => W.WP.at (n := (W.cx 101)) (E := [(0, .int .i64 seq0), (1, .int .i64 ack1), (2, b2.v), (3, .int .i64 at3), (4, .int .u8 by4)]) (W.WP.seq (c := C0) (x := C42) (y := C1) (by kernel_rfl) <| W.WP.reg (c := C42) (fun E w => KE_S1 E w R) (by kernel_rfl) (Eq.mp (by kernel_rfl) h5) fun _ _ a hA hK => (KE_S1_ok R _ _ hK) a hA) (ha.cons hq0 (ha.cons hq1 (ha.cons hq2 (ha.cons hq3 (ha.cons hq4 ha.nil)))))
/-- enthymeme/enthymemelaw38.ChannelDetects -/
theorem ok (seq0 ack1 : Int) (b2 : W.Sl) (at3 by4 : Int) (w : World) (R : W.Post) (h : S0 seq0 ack1 b2 at3 by4 w R) : Calls Try.prog n_enthymemelaw38_ChannelDetects #[.int .i64 seq0, .int .i64 ack1, b2.v, .int .i64 at3, .int .u8 by4] w R :=
  W.calls_of_WP' (fn := Try.f4) (c := C0) (args := [.int .i64 seq0, .int .i64 ack1, b2.v, .int .i64 at3, .int .u8 by4]) (by kernel_rfl) (by kernel_rfl) (by kernel_rfl) (KE_S0_ok R _ _ (Eq.mp (by kernel_rfl) h))
end enthymemelaw38_ChannelDetects
end Go.Proofs.Ytpfomlenbhocpaa
