/- Printed by a program of ours (vcgen.py) from the dump: the conditions of the functions, and that they suffice. -/
import Derived.Test.YtjjhfdjpmonlaaaV
import Derived.Test.YtjjhfdjpmonlaaaY
set_option linter.unusedVariables false
set_option maxRecDepth 100000
set_option maxHeartbeats 2000000
namespace Go.Proofs.Ytjjhfdjpmonlaaa
open Go Go.W
namespace cmp_isNaN_int
noncomputable def C0 : Code := (Try.f77.body).getD .skip
/-- cmp.isNaN[int] -/
noncomputable def C1:=C0.sn
noncomputable def C2:=C1.sn
theorem ok (x0 : Int) (w : World) (R : Post) (h : R (.returned (.bool (x0 != x0))) w) : Calls Try.prog n_cmp_isNaN_int #[.i x0] w R :=
  calls_of_WP' (R := R) (fn := Try.f77) (c := C0) (args := [.i x0]) (by kernel_rfl) (by kernel_rfl) (by kernel_rfl) (sr C0 (show (fun (E : Env) (w : World) => srK Try.prog C0 (fun E w => srK Try.prog C1 (fun E w => retVC Try.prog Try.f77 E w (fun v => R (.returned v) w)) E w) E w) (envOf 0 [.i x0]) w from Eq.mp (by kernel_rfl) h) fun _ _ hK => (sr C1 hK fun _ _ hK => (rt C2 fun a hA => retVC_sound hA hK)))
end cmp_isNaN_int
namespace cmp_isNaN_uint64
noncomputable def C0 : Code := (Try.f78.body).getD .skip
/-- cmp.isNaN[uint64] -/
noncomputable def C1:=C0.sn
noncomputable def C2:=C1.sn
theorem ok (x0 : Int) (w : World) (R : Post) (h : R (.returned (.bool (x0 != x0))) w) : Calls Try.prog n_cmp_isNaN_uint64 #[.u x0] w R :=
  calls_of_WP' (R := R) (fn := Try.f78) (c := C0) (args := [.u x0]) (by kernel_rfl) (by kernel_rfl) (by kernel_rfl) (sr C0 (show (fun (E : Env) (w : World) => srK Try.prog C0 (fun E w => srK Try.prog C1 (fun E w => retVC Try.prog Try.f78 E w (fun v => R (.returned v) w)) E w) E w) (envOf 0 [.u x0]) w from Eq.mp (by kernel_rfl) h) fun _ _ hK => (sr C1 hK fun _ _ hK => (rt C2 fun a hA => retVC_sound hA hK)))
end cmp_isNaN_uint64
namespace cmp_isNaN_string
noncomputable def C0 : Code := (Try.f79.body).getD .skip
/-- cmp.isNaN[string] -/
noncomputable def C1:=C0.sn
noncomputable def C2:=C1.sn
theorem ok (x0 : ByteArray) (w : World) (R : Post) (h : R (.returned (.bool (!(x0.toList == x0.toList)))) w) : Calls Try.prog n_cmp_isNaN_string #[.string x0] w R :=
  calls_of_WP' (R := R) (fn := Try.f79) (c := C0) (args := [.string x0]) (by kernel_rfl) (by kernel_rfl) (by kernel_rfl) (sr C0 (show (fun (E : Env) (w : World) => srK Try.prog C0 (fun E w => srK Try.prog C1 (fun E w => retVC Try.prog Try.f79 E w (fun v => R (.returned v) w)) E w) E w) (envOf 0 [.string x0]) w from Eq.mp (by kernel_rfl) h) fun _ _ hK => (sr C1 hK fun _ _ hK => (rt C2 fun a hA => retVC_sound hA hK)))
end cmp_isNaN_string
namespace cmp_Compare_int
noncomputable def C0 : Code := (Try.f55.body).getD .skip
/-- cmp.Compare[int] -/
noncomputable def C1:=C0.sn
noncomputable def C2:=C1.sn
noncomputable def C3:=C2.sn
noncomputable def C4:=C3.fs
noncomputable def C5:=C4.sn
noncomputable def C6:=C5.fs
noncomputable def C7:=C6.fs
noncomputable def C8:=C7.sn
noncomputable def C9:=C8.fs
noncomputable def C10:=C6.sn
noncomputable def C11:=C3.sn
noncomputable def C12:=C11.fs
noncomputable def C13:=C12.sn
noncomputable def C14:=C13.fs
noncomputable def C15:=C11.sn
noncomputable def C16:=C15.fs
noncomputable def C17:=C16.sn
noncomputable def C18:=C17.fs
noncomputable def C19:=C15.sn
noncomputable def C20:=C19.fs
noncomputable def C21:=C20.sn
noncomputable def C22:=C21.fs
noncomputable def C23:=C19.sn
noncomputable def C24:=C9.sn
noncomputable def C25:=C8.sn
noncomputable def C26:=C10.sn
noncomputable def C27:=C5.sn
noncomputable def C28:=C14.sn
noncomputable def C29:=C13.sn
noncomputable def C30:=C18.sn
noncomputable def C31:=C17.sn
noncomputable def C32:=C22.sn
noncomputable def C33:=C21.sn
noncomputable def C34:=C23.sn
theorem ok (x0 y1 : Int) (w : World) (R : Post) (h : Calls Try.prog n_cmp_isNaN_int #[.i x0] w fun r_ w1 => ∃ t8 : Bool, r_ = .returned (.bool t8) ∧ 
  Calls Try.prog n_cmp_isNaN_int #[.i y1] w1 fun r_ w2 => ∃ t10 : Bool, r_ = .returned (.bool t10) ∧ 
  sel t8 (sel t10 (R (.returned (.i 0)) w2) (R (.returned (.i (-1))) w2)) (sel t10 (R (.returned (.i 1)) w2) (sel (decide (x0 < y1)) (R (.returned (.i (-1))) w2) (sel (decide (x0 > y1)) (R (.returned (.i 1)) w2) (R (.returned (.i 0)) w2))))) : Calls Try.prog n_cmp_Compare_int #[.i x0, .i y1] w R :=
  calls_of_WP' (R := R) (fn := Try.f55) (c := C0) (args := [.i x0, .i y1]) (by kernel_rfl) (by kernel_rfl) (by kernel_rfl) (sr C0 (show (fun (E : Env) (w : World) => srK Try.prog C0 (fun E w => srK Try.prog C1 (fun E w => srK Try.prog C2 (fun E w => srK Try.prog C4 (fun E w => condK (Env.val E (.tmp 11)) (srK Try.prog C7 (fun E w => condK (Env.val E (.tmp 12)) (srK Try.prog C9 (fun E w => retVC Try.prog Try.f55 E w (fun v => R (.returned v) w)) E w) (srK Try.prog C10 (fun E w => retVC Try.prog Try.f55 E w (fun v => R (.returned v) w)) E w)) E w) (srK Try.prog C12 (fun E w => condK (Env.val E (.tmp 13)) (srK Try.prog C14 (fun E w => retVC Try.prog Try.f55 E w (fun v => R (.returned v) w)) E w) (srK Try.prog C16 (fun E w => condK (Env.val E (.tmp 16)) (srK Try.prog C18 (fun E w => retVC Try.prog Try.f55 E w (fun v => R (.returned v) w)) E w) (srK Try.prog C20 (fun E w => condK (Env.val E (.tmp 19)) (srK Try.prog C22 (fun E w => retVC Try.prog Try.f55 E w (fun v => R (.returned v) w)) E w) (srK Try.prog C23 (fun E w => retVC Try.prog Try.f55 E w (fun v => R (.returned v) w)) E w)) E w)) E w)) E w)) E w) E w) E w) E w) (envOf 0 [.i x0, .i y1]) w from Eq.mp (by kernel_rfl) h) fun _ _ hK => (sr C1 hK fun _ _ hK => (sr C2 hK fun _ _ hK => (sq C3 (sr C4 hK fun _ _ hK => (cn C5 hK (fun hK => (sq C6 (sr C7 hK fun _ _ hK => (cn C8 hK (fun hK => (sr C9 hK fun _ _ hK => (rt C24 fun a hA => retVC_sound hA hK))) (fun hK => (sk C25 fun a hA => nx hA (sr C10 hK fun _ _ hK => (rt C26 fun a hA => retVC_sound hA hK)))))))) (fun hK => (sk C27 fun a hA => nx hA (sq C11 (sr C12 hK fun _ _ hK => (cn C13 hK (fun hK => (sr C14 hK fun _ _ hK => (rt C28 fun a hA => retVC_sound hA hK))) (fun hK => (sk C29 fun a hA => nx hA (sq C15 (sr C16 hK fun _ _ hK => (cn C17 hK (fun hK => (sr C18 hK fun _ _ hK => (rt C30 fun a hA => retVC_sound hA hK))) (fun hK => (sk C31 fun a hA => nx hA (sq C19 (sr C20 hK fun _ _ hK => (cn C21 hK (fun hK => (sr C22 hK fun _ _ hK => (rt C32 fun a hA => retVC_sound hA hK))) (fun hK => (sk C33 fun a hA => nx hA (sr C23 hK fun _ _ hK => (rt C34 fun a hA => retVC_sound hA hK)))))))))))))))))))))))))
end cmp_Compare_int
namespace cmp_Compare_uint64
noncomputable def C0 : Code := (Try.f56.body).getD .skip
/-- cmp.Compare[uint64] -/
noncomputable def C1:=C0.sn
noncomputable def C2:=C1.sn
noncomputable def C3:=C2.sn
noncomputable def C4:=C3.fs
noncomputable def C5:=C4.sn
noncomputable def C6:=C5.fs
noncomputable def C7:=C6.fs
noncomputable def C8:=C7.sn
noncomputable def C9:=C8.fs
noncomputable def C10:=C6.sn
noncomputable def C11:=C3.sn
noncomputable def C12:=C11.fs
noncomputable def C13:=C12.sn
noncomputable def C14:=C13.fs
noncomputable def C15:=C11.sn
noncomputable def C16:=C15.fs
noncomputable def C17:=C16.sn
noncomputable def C18:=C17.fs
noncomputable def C19:=C15.sn
noncomputable def C20:=C19.fs
noncomputable def C21:=C20.sn
noncomputable def C22:=C21.fs
noncomputable def C23:=C19.sn
noncomputable def C24:=C9.sn
noncomputable def C25:=C8.sn
noncomputable def C26:=C10.sn
noncomputable def C27:=C5.sn
noncomputable def C28:=C14.sn
noncomputable def C29:=C13.sn
noncomputable def C30:=C18.sn
noncomputable def C31:=C17.sn
noncomputable def C32:=C22.sn
noncomputable def C33:=C21.sn
noncomputable def C34:=C23.sn
theorem ok (x0 y1 : Int) (w : World) (R : Post) (h : Calls Try.prog n_cmp_isNaN_uint64 #[.u x0] w fun r_ w1 => ∃ t8 : Bool, r_ = .returned (.bool t8) ∧ 
  Calls Try.prog n_cmp_isNaN_uint64 #[.u y1] w1 fun r_ w2 => ∃ t10 : Bool, r_ = .returned (.bool t10) ∧ 
  sel t8 (sel t10 (R (.returned (.i 0)) w2) (R (.returned (.i (-1))) w2)) (sel t10 (R (.returned (.i 1)) w2) (sel (decide (x0 < y1)) (R (.returned (.i (-1))) w2) (sel (decide (x0 > y1)) (R (.returned (.i 1)) w2) (R (.returned (.i 0)) w2))))) : Calls Try.prog n_cmp_Compare_uint64 #[.u x0, .u y1] w R :=
  calls_of_WP' (R := R) (fn := Try.f56) (c := C0) (args := [.u x0, .u y1]) (by kernel_rfl) (by kernel_rfl) (by kernel_rfl) (sr C0 (show (fun (E : Env) (w : World) => srK Try.prog C0 (fun E w => srK Try.prog C1 (fun E w => srK Try.prog C2 (fun E w => srK Try.prog C4 (fun E w => condK (Env.val E (.tmp 11)) (srK Try.prog C7 (fun E w => condK (Env.val E (.tmp 12)) (srK Try.prog C9 (fun E w => retVC Try.prog Try.f56 E w (fun v => R (.returned v) w)) E w) (srK Try.prog C10 (fun E w => retVC Try.prog Try.f56 E w (fun v => R (.returned v) w)) E w)) E w) (srK Try.prog C12 (fun E w => condK (Env.val E (.tmp 13)) (srK Try.prog C14 (fun E w => retVC Try.prog Try.f56 E w (fun v => R (.returned v) w)) E w) (srK Try.prog C16 (fun E w => condK (Env.val E (.tmp 16)) (srK Try.prog C18 (fun E w => retVC Try.prog Try.f56 E w (fun v => R (.returned v) w)) E w) (srK Try.prog C20 (fun E w => condK (Env.val E (.tmp 19)) (srK Try.prog C22 (fun E w => retVC Try.prog Try.f56 E w (fun v => R (.returned v) w)) E w) (srK Try.prog C23 (fun E w => retVC Try.prog Try.f56 E w (fun v => R (.returned v) w)) E w)) E w)) E w)) E w)) E w) E w) E w) E w) (envOf 0 [.u x0, .u y1]) w from Eq.mp (by kernel_rfl) h) fun _ _ hK => (sr C1 hK fun _ _ hK => (sr C2 hK fun _ _ hK => (sq C3 (sr C4 hK fun _ _ hK => (cn C5 hK (fun hK => (sq C6 (sr C7 hK fun _ _ hK => (cn C8 hK (fun hK => (sr C9 hK fun _ _ hK => (rt C24 fun a hA => retVC_sound hA hK))) (fun hK => (sk C25 fun a hA => nx hA (sr C10 hK fun _ _ hK => (rt C26 fun a hA => retVC_sound hA hK)))))))) (fun hK => (sk C27 fun a hA => nx hA (sq C11 (sr C12 hK fun _ _ hK => (cn C13 hK (fun hK => (sr C14 hK fun _ _ hK => (rt C28 fun a hA => retVC_sound hA hK))) (fun hK => (sk C29 fun a hA => nx hA (sq C15 (sr C16 hK fun _ _ hK => (cn C17 hK (fun hK => (sr C18 hK fun _ _ hK => (rt C30 fun a hA => retVC_sound hA hK))) (fun hK => (sk C31 fun a hA => nx hA (sq C19 (sr C20 hK fun _ _ hK => (cn C21 hK (fun hK => (sr C22 hK fun _ _ hK => (rt C32 fun a hA => retVC_sound hA hK))) (fun hK => (sk C33 fun a hA => nx hA (sr C23 hK fun _ _ hK => (rt C34 fun a hA => retVC_sound hA hK)))))))))))))))))))))))))
end cmp_Compare_uint64
namespace cmp_Compare_string
noncomputable def C0 : Code := (Try.f57.body).getD .skip
/-- cmp.Compare[string] -/
noncomputable def C1:=C0.sn
noncomputable def C2:=C1.sn
noncomputable def C3:=C2.sn
noncomputable def C4:=C3.fs
noncomputable def C5:=C4.sn
noncomputable def C6:=C5.fs
noncomputable def C7:=C6.fs
noncomputable def C8:=C7.sn
noncomputable def C9:=C8.fs
noncomputable def C10:=C6.sn
noncomputable def C11:=C3.sn
noncomputable def C12:=C11.fs
noncomputable def C13:=C12.sn
noncomputable def C14:=C13.fs
noncomputable def C15:=C11.sn
noncomputable def C16:=C15.fs
noncomputable def C17:=C16.sn
noncomputable def C18:=C17.fs
noncomputable def C19:=C15.sn
noncomputable def C20:=C19.fs
noncomputable def C21:=C20.sn
noncomputable def C22:=C21.fs
noncomputable def C23:=C19.sn
noncomputable def C24:=C9.sn
noncomputable def C25:=C8.sn
noncomputable def C26:=C10.sn
noncomputable def C27:=C5.sn
noncomputable def C28:=C14.sn
noncomputable def C29:=C13.sn
noncomputable def C30:=C18.sn
noncomputable def C31:=C17.sn
noncomputable def C32:=C22.sn
noncomputable def C33:=C21.sn
noncomputable def C34:=C23.sn
theorem ok (x0 y1 : ByteArray) (w : World) (R : Post) (h : Calls Try.prog n_cmp_isNaN_string #[.string x0] w fun r_ w1 => ∃ t8 : Bool, r_ = .returned (.bool t8) ∧ 
  Calls Try.prog n_cmp_isNaN_string #[.string y1] w1 fun r_ w2 => ∃ t10 : Bool, r_ = .returned (.bool t10) ∧ 
  sel t8 (sel t10 (R (.returned (.i 0)) w2) (R (.returned (.i (-1))) w2)) (sel t10 (R (.returned (.i 1)) w2) (sel (Op.bytesLess x0.toList y1.toList) (R (.returned (.i (-1))) w2) (sel (!((Op.bytesLess x0.toList y1.toList) || (x0.toList == y1.toList))) (R (.returned (.i 1)) w2) (R (.returned (.i 0)) w2))))) : Calls Try.prog n_cmp_Compare_string #[.string x0, .string y1] w R :=
  calls_of_WP' (R := R) (fn := Try.f57) (c := C0) (args := [.string x0, .string y1]) (by kernel_rfl) (by kernel_rfl) (by kernel_rfl) (sr C0 (show (fun (E : Env) (w : World) => srK Try.prog C0 (fun E w => srK Try.prog C1 (fun E w => srK Try.prog C2 (fun E w => srK Try.prog C4 (fun E w => condK (Env.val E (.tmp 11)) (srK Try.prog C7 (fun E w => condK (Env.val E (.tmp 12)) (srK Try.prog C9 (fun E w => retVC Try.prog Try.f57 E w (fun v => R (.returned v) w)) E w) (srK Try.prog C10 (fun E w => retVC Try.prog Try.f57 E w (fun v => R (.returned v) w)) E w)) E w) (srK Try.prog C12 (fun E w => condK (Env.val E (.tmp 13)) (srK Try.prog C14 (fun E w => retVC Try.prog Try.f57 E w (fun v => R (.returned v) w)) E w) (srK Try.prog C16 (fun E w => condK (Env.val E (.tmp 16)) (srK Try.prog C18 (fun E w => retVC Try.prog Try.f57 E w (fun v => R (.returned v) w)) E w) (srK Try.prog C20 (fun E w => condK (Env.val E (.tmp 19)) (srK Try.prog C22 (fun E w => retVC Try.prog Try.f57 E w (fun v => R (.returned v) w)) E w) (srK Try.prog C23 (fun E w => retVC Try.prog Try.f57 E w (fun v => R (.returned v) w)) E w)) E w)) E w)) E w)) E w) E w) E w) E w) (envOf 0 [.string x0, .string y1]) w from Eq.mp (by kernel_rfl) h) fun _ _ hK => (sr C1 hK fun _ _ hK => (sr C2 hK fun _ _ hK => (sq C3 (sr C4 hK fun _ _ hK => (cn C5 hK (fun hK => (sq C6 (sr C7 hK fun _ _ hK => (cn C8 hK (fun hK => (sr C9 hK fun _ _ hK => (rt C24 fun a hA => retVC_sound hA hK))) (fun hK => (sk C25 fun a hA => nx hA (sr C10 hK fun _ _ hK => (rt C26 fun a hA => retVC_sound hA hK)))))))) (fun hK => (sk C27 fun a hA => nx hA (sq C11 (sr C12 hK fun _ _ hK => (cn C13 hK (fun hK => (sr C14 hK fun _ _ hK => (rt C28 fun a hA => retVC_sound hA hK))) (fun hK => (sk C29 fun a hA => nx hA (sq C15 (sr C16 hK fun _ _ hK => (cn C17 hK (fun hK => (sr C18 hK fun _ _ hK => (rt C30 fun a hA => retVC_sound hA hK))) (fun hK => (sk C31 fun a hA => nx hA (sq C19 (sr C20 hK fun _ _ hK => (cn C21 hK (fun hK => (sr C22 hK fun _ _ hK => (rt C32 fun a hA => retVC_sound hA hK))) (fun hK => (sk C33 fun a hA => nx hA (sr C23 hK fun _ _ hK => (rt C34 fun a hA => retVC_sound hA hK)))))))))))))))))))))))))
end cmp_Compare_string
namespace cmp_Or_int
noncomputable def C0 : Code := (Try.f54.body).getD .skip
noncomputable def C1:=C0.sn
noncomputable def C2:=C1.sn
noncomputable def C3:=C2.fs
noncomputable def C4:=C3.sn
noncomputable def C5:=C4.fs
noncomputable def C6:=C5.fs
noncomputable def C7:=C2.sn
abbrev Q0 (R : Post) : Exit → Act → World → Prop := (Exit.then (wpx Try.prog (cx 18) C7 (bodyPost Try.prog Try.f54 R)) (bodyPost Try.prog Try.f54 R))
abbrev Q1 (R : Post) : Exit → Act → World → Prop := (Exit.inBlock 0 (Q0 R))
/-- the head of the loop, cmp.go:71 -/
def L0 (zero3 : Int) (t6 : Sl) (t7 t8 : Int) (w : World) (R : Post) : Prop := LP Try.prog (cx 18) C6 (Q1 R) [(3, .i zero3), (6, t6.v), (7, .i t7), (8, .i t8)] w
def KE_L0 (E : Env) (w : World) (R : Post) : Prop := W.asInt .i64 (Env.get? E 3) fun zero3 => asSlice (Env.get? E 6) fun t6 => W.asInt .i64 (Env.get? E 7) fun t7 => W.asInt .i64 (Env.get? E 8) fun t8 => L0 zero3 t6 t7 t8 w R
theorem KE_L0_ok (R : Post) (E : Env) (w : World) (h : KE_L0 E w R) : LP Try.prog (cx 18) C6 (Q1 R) E w := by
  obtain ⟨zero3, hq3, h_1⟩ := asInt_elim h
  obtain ⟨t6, hq6, h_2⟩ := asSlice_elim h_1
  obtain ⟨t7, hq7, h_3⟩ := asInt_elim h_2
  obtain ⟨t8, hq8, h_4⟩ := asInt_elim h_3
  intro a ha
  exact h_4 a (ha.cons hq3 (ha.cons hq6 (ha.cons hq7 (ha.cons hq8 ha.nil))))
noncomputable def C8:=C6.sn
noncomputable def C9:=C8.sn
noncomputable def C10:=C9.fs
noncomputable def C11:=C10.fs
noncomputable def C12:=C11.sn
noncomputable def C13:=C12.sn
noncomputable def C14:=C13.fs
noncomputable def C15:=C9.sn
noncomputable def C16:=C8.fs
noncomputable def C17:=C16.fs
noncomputable def C18:=C14.sn
noncomputable def C19:=C13.sn
noncomputable def C20:=C16.sn
noncomputable def C21:=C7.sn
theorem L0_step (zero3 : Int) (t6 : Sl) (t7 t8 : Int) (w : World) (R : Post) (h : sel (decide (t8 < t7)) ((0 : Int) ≤ t8 ∧ t8 < ((t6.n : Nat) : Int) ∧ optP t6.a fun t10_p => ∃ t11 : Int, w.cell? (t10_p.add (Int.toNat t8 * 1)) = some (.i t11) ∧ 
  sel (t11 != zero3) (R (.returned (.i t11)) w) (L0 zero3 t6 t7 (IntKind.wrap .i64 (t8 + 1)) w R)) (R (.returned (.i zero3)) w)) : L0 zero3 t6 t7 t8 w R :=
  LP.step (n := (cx 18)) (c := C6) (E := [(3, .i zero3), (6, t6.v), (7, .i t7), (8, .i t8)]) (w := w) (sr C6 (show (fun (E : Env) (w : World) => srK Try.prog C6 (fun E w => condK (Env.val E (.tmp 9)) (srK Try.prog C11 (fun E w => srK Try.prog C12 (fun E w => condK (Env.val E (.tmp 14)) (srK Try.prog C14 (fun E w => retVC Try.prog Try.f54 E w (fun v => R (.returned v) w)) E w) (rgK Try.prog C15 (fun E w => KE_L0 E w R) E w)) E w) E w) (srK Try.prog C7 (fun E w => retVC Try.prog Try.f54 E w (fun v => R (.returned v) w)) E w)) E w) [(3, .i zero3), (6, t6.v), (7, .i t7), (8, .i t8)] w from Eq.mp (by kernel_rfl) h) fun _ _ hK => (sq C8 (cn C16 hK (fun hK => (sk C17 fun a hA => nx hA (sq C9 (bk C10 1 (by kernel_rfl) (sr C11 hK fun _ _ hK => (sr C12 hK fun _ _ hK => (cn C13 hK (fun hK => (sr C14 hK fun _ _ hK => (rt C18 fun a hA => retVC_sound hA hK))) (fun hK => (sk C19 fun a hA => nx hA (rg C15 (by kernel_rfl) hK fun _ _ a hA hK => KE_L0_ok R _ _ hK a hA)))))))))) (fun hK => (xt C20 0 (by kernel_rfl) fun a hA => nx hA (sr C7 hK fun _ _ hK => (rt C21 fun a hA => retVC_sound hA hK)))))))
/-- cmp.Or[int] -/
theorem ok (vals0 : Sl) (w : World) (R : Post) (h : L0 0 vals0 ((vals0.n : Nat) : Int) 0 w R) : Calls Try.prog n_cmp_Or_int #[vals0.v] w R :=
  calls_of_WP' (R := R) (fn := Try.f54) (c := C0) (args := [vals0.v]) (by kernel_rfl) (by kernel_rfl) (by kernel_rfl) (sr C0 (show (fun (E : Env) (w : World) => srK Try.prog C0 (fun E w => srK Try.prog C1 (fun E w => srK Try.prog C3 (fun E w => KE_L0 E w R) E w) E w) E w) (envOf 0 [vals0.v]) w from Eq.mp (by kernel_rfl) h) fun _ _ hK => (sr C1 hK fun _ _ hK => (sq C2 (sr C3 hK fun _ _ hK => (bk C4 0 (by kernel_rfl) (lp C5 (by kernel_rfl) (KE_L0_ok R _ _ hK)))))))
end cmp_Or_int
namespace value_Compare_1
noncomputable def C0 : Code := (Try.f59.body).getD .skip
/-- enthymeme/value.Compare$1 -/
noncomputable def C1:=C0.sn
noncomputable def C2:=C1.sn
theorem ok (x0_0 x0_1 : Int) (x0_2 : ByteArray) (y1_0 y1_1 : Int) (y1_2 : ByteArray) (w : World) (R : Post) (h : nwV w (.cells #[.u x0_0, .u x0_1, .string x0_2] ty_value_Entry) fun w1 => 
  nwV w1 (.cells #[.u y1_0, .u y1_1, .string y1_2] ty_value_Entry) fun w2 => 
  drV w2 fun w3 => ∃ t6 : Int, w3.cell? ((nb w).add 0) = some (.u t6) ∧ 
  ∃ t8 : Int, w3.cell? ((nb w1).add 0) = some (.u t8) ∧ 
  ∃ t11 : Int, w3.cell? ((nb w).add 1) = some (.u t11) ∧ 
  ∃ t13 : Int, w3.cell? ((nb w1).add 1) = some (.u t13) ∧ 
  ∃ t16 : ByteArray, w3.cell? ((nb w).add 2) = some (.string t16) ∧ 
  ∃ t18 : ByteArray, w3.cell? ((nb w1).add 2) = some (.string t18) ∧ 
  Calls Try.prog n_cmp_Compare_uint64 #[.u t6, .u t8] w3 fun r_ w4 => ∃ t9 : Int, r_ = .returned (.i t9) ∧ 
  w4.cell? ((nb w1).add 2) = some (.string t18) ∧ w4.cell? ((nb w).add 2) = some (.string t16) ∧ w4.cell? ((nb w1).add 1) = some (.u t13) ∧ w4.cell? ((nb w).add 1) = some (.u t11) ∧ Calls Try.prog n_cmp_Compare_uint64 #[.u t11, .u t13] w4 fun r_ w5 => ∃ t14 : Int, r_ = .returned (.i t14) ∧ 
  w5.cell? ((nb w1).add 2) = some (.string t18) ∧ w5.cell? ((nb w).add 2) = some (.string t16) ∧ Calls Try.prog n_cmp_Compare_string #[.string t16, .string t18] w5 fun r_ w6 => ∃ t19 : Int, r_ = .returned (.i t19) ∧ 
  nwV w6 (.cells #[.i t9, .i t14, .i t19] ty_int) fun w7 => 
  Calls Try.prog n_cmp_Or_int #[.slice (some (nb w6)) 3 3] w7 fun r_ w8 => ∃ t21 : Int, r_ = .returned (.i t21) ∧ 
  R (.returned (.i t21)) w8) : Calls Try.prog n_value_Compare_1 #[.agg #[.u x0_0, .u x0_1, .string x0_2], .agg #[.u y1_0, .u y1_1, .string y1_2]] w R :=
  calls_of_WP' (R := R) (fn := Try.f59) (c := C0) (args := [.agg #[.u x0_0, .u x0_1, .string x0_2], .agg #[.u y1_0, .u y1_1, .string y1_2]]) (by kernel_rfl) (by kernel_rfl) (by kernel_rfl) (sr C0 (show (fun (E : Env) (w : World) => srK Try.prog C0 (fun E w => sdK Try.prog C1 [0, 1, 2, 3, 5, 6, 7, 8, 10, 11, 12, 13, 4, 9, 14, 15, 16, 17] (fun E w => retVC Try.prog Try.f59 E w (fun v => R (.returned v) w)) E w) E w) (envOf 0 [.agg #[.u x0_0, .u x0_1, .string x0_2], .agg #[.u y1_0, .u y1_1, .string y1_2]]) w from Eq.mp (by kernel_rfl) h) fun _ _ hK => (sd C1 (by kernel_rfl) hK fun _ _ hK => (rt C2 fun a hA => retVC_sound hA hK)))
theorem okT (x0_0 x0_1 : Int) (x0_2 : ByteArray) (y1_0 y1_1 : Int) (y1_2 : ByteArray) (w : World) (R : Post) (h : newV [] w fun b2 w1 => 
  newV [b2] w1 fun b3 w2 => 
  loc [b2, b3] w2 fun w3 => callF [b2, b3] Try.prog n_cmp_Compare_uint64 #[.u x0_0, .u y1_0] w3 fun r_ w4 => ∃ t9 : Int, r_ = .returned (.i t9) ∧ 
  callF [b2, b3] Try.prog n_cmp_Compare_uint64 #[.u x0_1, .u y1_1] w4 fun r_ w5 => ∃ t14 : Int, r_ = .returned (.i t14) ∧ 
  callF [b2, b3] Try.prog n_cmp_Compare_string #[.string x0_2, .string y1_2] w5 fun r_ w6 => ∃ t19 : Int, r_ = .returned (.i t19) ∧ 
  nwV w6 (.cells #[.i t9, .i t14, .i t19] ty_int) fun w7 => 
  callF [b2, b3] Try.prog n_cmp_Or_int #[.slice (some (nb w6)) 3 3] w7 fun r_ w8 => ∃ t21 : Int, r_ = .returned (.i t21) ∧ 
  R (.returned (.i t21)) w8) : Calls Try.prog n_value_Compare_1 #[.agg #[.u x0_0, .u x0_1, .string x0_2], .agg #[.u y1_0, .u y1_1, .string y1_2]] w R :=
  ok _ _ _ _ _ _ w R (LC.nwT (LC.nil _) (Fr.refl _ _) h fun w1 H h => LC.nwT H (Fr.refl _ _) h fun w2 H h => LC.drT H (Fr.refl _ _) fun w3 H f => ⟨_, H.ld 0 0, ⟨_, H.ld 1 0, ⟨_, H.ld 0 1, ⟨_, H.ld 1 1, ⟨_, H.ld 0 2, ⟨_, H.ld 1 2, have h := h _ f; LC.callT H h fun r_ w4 H h => let ⟨t9, hr, h⟩ := h; ⟨t9, hr, ⟨H.ld 1 2, H.ld 0 2, H.ld 1 1, H.ld 0 1, LC.callT H h fun r_ w5 H h => let ⟨t14, hr, h⟩ := h; ⟨t14, hr, ⟨H.ld 1 2, H.ld 0 2, LC.callT H h fun r_ w6 H h => let ⟨t19, hr, h⟩ := h; ⟨t19, hr, LC.nwN H h fun w7 H h => LC.callT H h fun r_ w8 H h => let ⟨t21, hr, h⟩ := h; ⟨t21, hr, h⟩⟩⟩⟩⟩⟩⟩⟩⟩⟩⟩⟩)
end value_Compare_1
namespace value_compareLists_value_Entry
noncomputable def C0 : Code := (Try.f58.body).getD .skip
noncomputable def C1:=C0.sn
noncomputable def C2:=C1.fs
noncomputable def C3:=C2.sn
noncomputable def C4:=C3.fs
noncomputable def C5:=C4.fs
noncomputable def C6:=C1.sn
abbrev Q0 (R : Post) : Exit → Act → World → Prop := (Exit.then (wpx Try.prog (cx 39) C6 (bodyPost Try.prog Try.f58 R)) (bodyPost Try.prog Try.f58 R))
abbrev Q1 (R : Post) : Exit → Act → World → Prop := (Exit.inBlock 0 (Q0 R))
/-- the head of the loop, value.go:104 -/
def L0 (a0 b1 : Sl) (i7 : Int) (w : World) (R : Post) : Prop := LP Try.prog (cx 39) C5 (Q1 R) [(0, a0.v), (1, b1.v), (2, .func (.func n_value_Compare_1) #[] #[]), (7, .i i7)] w
def KE_L0 (E : Env) (w : World) (R : Post) : Prop := asSlice (Env.get? E 0) fun a0 => asSlice (Env.get? E 1) fun b1 => asFunc n_value_Compare_1 (Env.get? E 2) fun compare2_lf0 compare2_lc0 => asNil compare2_lf0 <| asNil compare2_lc0 <| W.asInt .i64 (Env.get? E 7) fun i7 => L0 a0 b1 i7 w R
theorem KE_L0_ok (R : Post) (E : Env) (w : World) (h : KE_L0 E w R) : LP Try.prog (cx 39) C5 (Q1 R) E w := by
  obtain ⟨a0, hq0, h_1⟩ := asSlice_elim h
  obtain ⟨b1, hq1, h_2⟩ := asSlice_elim h_1
  obtain ⟨compare2_lf0, compare2_lc0, hq2, h_3⟩ := asFunc_elim h_2
  obtain ⟨rfl, h_4⟩ := asNil_elim h_3
  obtain ⟨rfl, h_5⟩ := asNil_elim h_4
  obtain ⟨i7, hq7, h_6⟩ := asInt_elim h_5
  intro a ha
  exact h_6 a (ha.cons hq0 (ha.cons hq1 (ha.cons hq2 (ha.cons hq7 ha.nil))))
abbrev Q2 (R : Post) : Exit → Act → World → Prop := (bodyPost Try.prog Try.f58 R)
noncomputable def C7:=C6.sn
/-- value.go:109 -/
abbrev S1 (a0 b1 : Sl) (w : World) (R : Post) : Prop :=
  Calls Try.prog n_cmp_Compare_int #[.i ((a0.n : Nat) : Int), .i ((b1.n : Nat) : Int)] w fun r_ w1 => ∃ t38 : Int, r_ = .returned (.i t38) ∧ 
  R (.returned (.i t38)) w1
def KE_S1 (E : Env) (w : World) (R : Post) : Prop := asSlice (Env.get? E 0) fun a0 => asSlice (Env.get? E 1) fun b1 => S1 a0 b1 w R
theorem KE_S1_ok (R : Post) (E : Env) (w : World) (h : KE_S1 E w R) : WP Try.prog (cx 39) C6 (Q2 R) E w := by
  obtain ⟨a0, hq0, h_1⟩ := asSlice_elim h
  obtain ⟨b1, hq1, h_2⟩ := asSlice_elim h_1
  exact fun a ha => WP.at (E := [(0, a0.v), (1, b1.v)]) (sr C6 (K := fun E w => retVC Try.prog Try.f58 E w (fun v => R (.returned v) w)) (Eq.mp (by kernel_rfl) h_2) fun _ _ hK => (rt C7 fun a hA => retVC_sound hA hK)) (ha.cons hq0 (ha.cons hq1 ha.nil))
noncomputable def C8:=C5.fs
noncomputable def C9:=C5.sn
noncomputable def C10:=C9.fs
noncomputable def C11:=C10.fs
noncomputable def C12:=C11.sn
noncomputable def C13:=C12.sn
noncomputable def C14:=C13.fs
noncomputable def C15:=C9.sn
noncomputable def C16:=C8.sn
noncomputable def C17:=C16.fs
noncomputable def C18:=C14.sn
noncomputable def C19:=C13.sn
noncomputable def C20:=C16.sn
theorem L0_step (a0 b1 : Sl) (i7 : Int) (w : World) (R : Post) (h : sel (decide (i7 < ((a0.n : Nat) : Int))) (sel (decide (i7 < ((b1.n : Nat) : Int))) (drV w fun w1 => (0 : Int) ≤ i7 ∧ i7 < ((a0.n : Nat) : Int) ∧ optP a0.a fun t24_p => ∃ t25_0 : Int, ∃ t25_1 : Int, ∃ t25_2 : ByteArray, w1.cell? ((t24_p.add (Int.toNat i7 * 3)).add 0) = some (.u t25_0) ∧ w1.cell? ((t24_p.add (Int.toNat i7 * 3)).add 1) = some (.u t25_1) ∧ w1.cell? ((t24_p.add (Int.toNat i7 * 3)).add 2) = some (.string t25_2) ∧ 
  (0 : Int) ≤ i7 ∧ i7 < ((b1.n : Nat) : Int) ∧ optP b1.a fun t28_p => ∃ t29_0 : Int, ∃ t29_1 : Int, ∃ t29_2 : ByteArray, w1.cell? ((t28_p.add (Int.toNat i7 * 3)).add 0) = some (.u t29_0) ∧ w1.cell? ((t28_p.add (Int.toNat i7 * 3)).add 1) = some (.u t29_1) ∧ w1.cell? ((t28_p.add (Int.toNat i7 * 3)).add 2) = some (.string t29_2) ∧ 
  Calls Try.prog n_value_Compare_1 #[.agg #[.u t25_0, .u t25_1, .string t25_2], .agg #[.u t29_0, .u t29_1, .string t29_2]] w1 fun r_ w2 => ∃ t30 : Int, r_ = .returned (.i t30) ∧ 
  sel (t30 != 0) (R (.returned (.i t30)) w2) (L0 a0 b1 (IntKind.wrap .i64 (i7 + 1)) w2 R)) (S1 a0 b1 w R)) (S1 a0 b1 w R)) : L0 a0 b1 i7 w R :=
  LP.step (n := (cx 39)) (c := C5) (E := [(0, a0.v), (1, b1.v), (2, .func (.func n_value_Compare_1) #[] #[]), (7, .i i7)]) (w := w) (sq C5 (sr C8 (show (fun (E : Env) (w : World) => srK Try.prog C8 (fun E w => condK (Env.val E (.tmp 18)) (sdK Try.prog C11 [0, 1, 2, 3, 4, 5, 6, 7, 8, 9, 10] (fun E w => srK Try.prog C12 (fun E w => condK (Env.val E (.tmp 32)) (srK Try.prog C14 (fun E w => retVC Try.prog Try.f58 E w (fun v => R (.returned v) w)) E w) (rgK Try.prog C15 (fun E w => KE_L0 E w R) E w)) E w) E w) (KE_S1 E w R)) E w) [(0, a0.v), (1, b1.v), (2, .func (.func n_value_Compare_1) #[] #[]), (7, .i i7)] w from Eq.mp (by kernel_rfl) h) fun _ _ hK => (cn C16 hK (fun hK => (sk C17 fun a hA => nx hA (sq C9 (bk C10 1 (by kernel_rfl) (sd C11 (by kernel_rfl) hK fun _ _ hK => (sr C12 hK fun _ _ hK => (cn C13 hK (fun hK => (sr C14 hK fun _ _ hK => (rt C18 fun a hA => retVC_sound hA hK))) (fun hK => (sk C19 fun a hA => nx hA (rg C15 (by kernel_rfl) hK fun _ _ a hA hK => KE_L0_ok R _ _ hK a hA)))))))))) (fun hK => (xt C20 0 (by kernel_rfl) fun a hA => nx hA (KE_S1_ok R _ _ hK))))))
/-- enthymeme/value.compareLists[enthymeme/value.Entry] -/
theorem ok (a0 b1 : Sl) (w : World) (R : Post) (h : L0 a0 b1 0 w R) : Calls Try.prog n_value_compareLists_value_Entry #[a0.v, b1.v, .func (.func n_value_Compare_1) #[] #[]] w R :=
  calls_of_WP' (R := R) (fn := Try.f58) (c := C0) (args := [a0.v, b1.v, .func (.func n_value_Compare_1) #[] #[]]) (by kernel_rfl) (by kernel_rfl) (by kernel_rfl) (sr C0 (show (fun (E : Env) (w : World) => srK Try.prog C0 (fun E w => srK Try.prog C2 (fun E w => KE_L0 E w R) E w) E w) (envOf 0 [a0.v, b1.v, .func (.func n_value_Compare_1) #[] #[]]) w from Eq.mp (by kernel_rfl) h) fun _ _ hK => (sq C1 (sr C2 hK fun _ _ hK => (bk C3 0 (by kernel_rfl) (lp C4 (by kernel_rfl) (KE_L0_ok R _ _ hK))))))
end value_compareLists_value_Entry
namespace value_Compare
noncomputable def C0 : Code := (Try.f30.body).getD .skip
/-- enthymeme/value.Compare -/
noncomputable def C1:=C0.sn
noncomputable def C2:=C1.sn
noncomputable def C3:=C2.fs
noncomputable def C4:=C3.sn
noncomputable def C5:=C4.fs
noncomputable def C6:=C2.sn
noncomputable def C7:=C5.sn
noncomputable def C8:=C4.sn
noncomputable def C9:=C6.sn
theorem ok (a0_0 a0_1 a0_2 a0_3 : Int) (a0_4 : ByteArray) (a0_5 : Sl) (b1_0 b1_1 b1_2 b1_3 : Int) (b1_4 : ByteArray) (b1_5 : Sl) (w : World) (R : Post) (h : nwV w (.cells #[.i a0_0, .i a0_1, .i a0_2, .u a0_3, .string a0_4, a0_5.v] ty_value_Value) fun w1 => 
  nwV w1 (.cells #[.i b1_0, .i b1_1, .i b1_2, .u b1_3, .string b1_4, b1_5.v] ty_value_Value) fun w2 => 
  drV w2 fun w3 => ∃ t8 : Int, w3.cell? (((nb w).add 0).add 0) = some (.i t8) ∧ 
  ∃ t11 : Int, w3.cell? (((nb w1).add 0).add 0) = some (.i t11) ∧ 
  ∃ t15 : Int, w3.cell? (((nb w).add 0).add 1) = some (.i t15) ∧ 
  ∃ t18 : Int, w3.cell? (((nb w1).add 0).add 1) = some (.i t18) ∧ 
  ∃ t22 : Int, w3.cell? (((nb w).add 0).add 2) = some (.i t22) ∧ 
  ∃ t25 : Int, w3.cell? (((nb w1).add 0).add 2) = some (.i t25) ∧ 
  ∃ t28 : Int, w3.cell? ((nb w).add 3) = some (.u t28) ∧ 
  ∃ t30 : Int, w3.cell? ((nb w1).add 3) = some (.u t30) ∧ 
  ∃ t33 : ByteArray, w3.cell? ((nb w).add 4) = some (.string t33) ∧ 
  ∃ t35 : ByteArray, w3.cell? ((nb w1).add 4) = some (.string t35) ∧ 
  Calls Try.prog n_cmp_Compare_int #[.i t8, .i t11] w3 fun r_ w4 => ∃ t12 : Int, r_ = .returned (.i t12) ∧ 
  w4.cell? ((nb w1).add 4) = some (.string t35) ∧ w4.cell? ((nb w).add 4) = some (.string t33) ∧ w4.cell? ((nb w1).add 3) = some (.u t30) ∧ w4.cell? ((nb w).add 3) = some (.u t28) ∧ w4.cell? (((nb w1).add 0).add 2) = some (.i t25) ∧ w4.cell? (((nb w).add 0).add 2) = some (.i t22) ∧ w4.cell? (((nb w1).add 0).add 1) = some (.i t18) ∧ w4.cell? (((nb w).add 0).add 1) = some (.i t15) ∧ Calls Try.prog n_cmp_Compare_int #[.i t15, .i t18] w4 fun r_ w5 => ∃ t19 : Int, r_ = .returned (.i t19) ∧ 
  w5.cell? ((nb w1).add 4) = some (.string t35) ∧ w5.cell? ((nb w).add 4) = some (.string t33) ∧ w5.cell? ((nb w1).add 3) = some (.u t30) ∧ w5.cell? ((nb w).add 3) = some (.u t28) ∧ w5.cell? (((nb w1).add 0).add 2) = some (.i t25) ∧ w5.cell? (((nb w).add 0).add 2) = some (.i t22) ∧ Calls Try.prog n_cmp_Compare_int #[.i t22, .i t25] w5 fun r_ w6 => ∃ t26 : Int, r_ = .returned (.i t26) ∧ 
  w6.cell? ((nb w1).add 4) = some (.string t35) ∧ w6.cell? ((nb w).add 4) = some (.string t33) ∧ w6.cell? ((nb w1).add 3) = some (.u t30) ∧ w6.cell? ((nb w).add 3) = some (.u t28) ∧ Calls Try.prog n_cmp_Compare_uint64 #[.u t28, .u t30] w6 fun r_ w7 => ∃ t31 : Int, r_ = .returned (.i t31) ∧ 
  w7.cell? ((nb w1).add 4) = some (.string t35) ∧ w7.cell? ((nb w).add 4) = some (.string t33) ∧ Calls Try.prog n_cmp_Compare_string #[.string t33, .string t35] w7 fun r_ w8 => ∃ t36 : Int, r_ = .returned (.i t36) ∧ 
  nwV w8 (.cells #[.i t12, .i t19, .i t26, .i t31, .i t36] ty_int) fun w9 => 
  Calls Try.prog n_cmp_Or_int #[.slice (some (nb w8)) 5 5] w9 fun r_ w10 => ∃ t38 : Int, r_ = .returned (.i t38) ∧ 
  sel (t38 != 0) (R (.returned (.i t38)) w10) (∃ t43 : Sl, w10.cell? ((nb w).add 5) = some (t43.v) ∧ 
  ∃ t45 : Sl, w10.cell? ((nb w1).add 5) = some (t45.v) ∧ 
  Calls Try.prog n_value_compareLists_value_Entry #[t43.v, t45.v, .func (.func n_value_Compare_1) #[] #[]] w10 fun r_ w11 => ∃ t46 : Int, r_ = .returned (.i t46) ∧ 
  R (.returned (.i t46)) w11)) : Calls Try.prog n_value_Compare #[.agg #[.i a0_0, .i a0_1, .i a0_2, .u a0_3, .string a0_4, a0_5.v], .agg #[.i b1_0, .i b1_1, .i b1_2, .u b1_3, .string b1_4, b1_5.v]] w R :=
  calls_of_WP' (R := R) (fn := Try.f30) (c := C0) (args := [.agg #[.i a0_0, .i a0_1, .i a0_2, .u a0_3, .string a0_4, a0_5.v], .agg #[.i b1_0, .i b1_1, .i b1_2, .u b1_3, .string b1_4, b1_5.v]]) (by kernel_rfl) (by kernel_rfl) (by kernel_rfl) (sr C0 (show (fun (E : Env) (w : World) => srK Try.prog C0 (fun E w => sdK Try.prog C1 [0, 1, 2, 3, 4, 5, 7, 8, 9, 10, 11, 12, 14, 15, 16, 17, 18, 19, 21, 22, 23, 24, 26, 27, 28, 29, 6, 13, 20, 25, 30, 31, 32, 33] (fun E w => srK Try.prog C3 (fun E w => condK (Env.val E (.tmp 40)) (srK Try.prog C5 (fun E w => retVC Try.prog Try.f30 E w (fun v => R (.returned v) w)) E w) (srK Try.prog C6 (fun E w => retVC Try.prog Try.f30 E w (fun v => R (.returned v) w)) E w)) E w) E w) E w) (envOf 0 [.agg #[.i a0_0, .i a0_1, .i a0_2, .u a0_3, .string a0_4, a0_5.v], .agg #[.i b1_0, .i b1_1, .i b1_2, .u b1_3, .string b1_4, b1_5.v]]) w from Eq.mp (by kernel_rfl) h) fun _ _ hK => (sd C1 (by kernel_rfl) hK fun _ _ hK => (sq C2 (sr C3 hK fun _ _ hK => (cn C4 hK (fun hK => (sr C5 hK fun _ _ hK => (rt C7 fun a hA => retVC_sound hA hK))) (fun hK => (sk C8 fun a hA => nx hA (sr C6 hK fun _ _ hK => (rt C9 fun a hA => retVC_sound hA hK)))))))))
theorem okT (a0_0 a0_1 a0_2 a0_3 : Int) (a0_4 : ByteArray) (a0_5 : Sl) (b1_0 b1_1 b1_2 b1_3 : Int) (b1_4 : ByteArray) (b1_5 : Sl) (w : World) (R : Post) (h : newV [] w fun b2 w1 => 
  newV [b2] w1 fun b3 w2 => 
  loc [b2, b3] w2 fun w3 => callF [b2, b3] Try.prog n_cmp_Compare_int #[.i a0_0, .i b1_0] w3 fun r_ w4 => ∃ t12 : Int, r_ = .returned (.i t12) ∧ 
  callF [b2, b3] Try.prog n_cmp_Compare_int #[.i a0_1, .i b1_1] w4 fun r_ w5 => ∃ t19 : Int, r_ = .returned (.i t19) ∧ 
  callF [b2, b3] Try.prog n_cmp_Compare_int #[.i a0_2, .i b1_2] w5 fun r_ w6 => ∃ t26 : Int, r_ = .returned (.i t26) ∧ 
  callF [b2, b3] Try.prog n_cmp_Compare_uint64 #[.u a0_3, .u b1_3] w6 fun r_ w7 => ∃ t31 : Int, r_ = .returned (.i t31) ∧ 
  callF [b2, b3] Try.prog n_cmp_Compare_string #[.string a0_4, .string b1_4] w7 fun r_ w8 => ∃ t36 : Int, r_ = .returned (.i t36) ∧ 
  nwV w8 (.cells #[.i t12, .i t19, .i t26, .i t31, .i t36] ty_int) fun w9 => 
  callF [b2, b3] Try.prog n_cmp_Or_int #[.slice (some (nb w8)) 5 5] w9 fun r_ w10 => ∃ t38 : Int, r_ = .returned (.i t38) ∧ 
  sel (t38 != 0) (R (.returned (.i t38)) w10) (callF [b2, b3] Try.prog n_value_compareLists_value_Entry #[a0_5.v, b1_5.v, .func (.func n_value_Compare_1) #[] #[]] w10 fun r_ w11 => ∃ t46 : Int, r_ = .returned (.i t46) ∧ 
  R (.returned (.i t46)) w11)) : Calls Try.prog n_value_Compare #[.agg #[.i a0_0, .i a0_1, .i a0_2, .u a0_3, .string a0_4, a0_5.v], .agg #[.i b1_0, .i b1_1, .i b1_2, .u b1_3, .string b1_4, b1_5.v]] w R :=
  ok _ _ _ _ _ _ _ _ _ _ _ _ w R (LC.nwT (LC.nil _) (Fr.refl _ _) h fun w1 H h => LC.nwT H (Fr.refl _ _) h fun w2 H h => LC.drT H (Fr.refl _ _) fun w3 H f => ⟨_, H.ld 0 0, ⟨_, H.ld 1 0, ⟨_, H.ld 0 1, ⟨_, H.ld 1 1, ⟨_, H.ld 0 2, ⟨_, H.ld 1 2, ⟨_, H.ld 0 3, ⟨_, H.ld 1 3, ⟨_, H.ld 0 4, ⟨_, H.ld 1 4, have h := h _ f; LC.callT H h fun r_ w4 H h => let ⟨t12, hr, h⟩ := h; ⟨t12, hr, ⟨H.ld 1 4, H.ld 0 4, H.ld 1 3, H.ld 0 3, H.ld 1 2, H.ld 0 2, H.ld 1 1, H.ld 0 1, LC.callT H h fun r_ w5 H h => let ⟨t19, hr, h⟩ := h; ⟨t19, hr, ⟨H.ld 1 4, H.ld 0 4, H.ld 1 3, H.ld 0 3, H.ld 1 2, H.ld 0 2, LC.callT H h fun r_ w6 H h => let ⟨t26, hr, h⟩ := h; ⟨t26, hr, ⟨H.ld 1 4, H.ld 0 4, H.ld 1 3, H.ld 0 3, LC.callT H h fun r_ w7 H h => let ⟨t31, hr, h⟩ := h; ⟨t31, hr, ⟨H.ld 1 4, H.ld 0 4, LC.callT H h fun r_ w8 H h => let ⟨t36, hr, h⟩ := h; ⟨t36, hr, LC.nwN H h fun w9 H h => LC.callT H h fun r_ w10 H h => let ⟨t38, hr, h⟩ := h; ⟨t38, hr, sel_imp h (fun h => h) (fun h => ⟨a0_5, H.ld 0 5, ⟨b1_5, H.ld 1 5, LC.callT H h fun r_ w11 H h => let ⟨t46, hr, h⟩ := h; ⟨t46, hr, h⟩⟩⟩)⟩⟩⟩⟩⟩⟩⟩⟩⟩⟩⟩⟩⟩⟩⟩⟩⟩⟩⟩⟩)
end value_Compare
end Go.Proofs.Ytjjhfdjpmonlaaa
