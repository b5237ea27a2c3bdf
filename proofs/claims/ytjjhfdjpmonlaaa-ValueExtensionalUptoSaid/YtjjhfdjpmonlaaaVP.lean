/- Printed by a program of ours (vcgen.py) from the dump: the conditions of the functions, and that they suffice. -/
import Derived.Test.YtjjhfdjpmonlaaaV
import Derived.Test.YtjjhfdjpmonlaaaY
set_option linter.unusedVariables false
set_option maxRecDepth 100000
set_option maxHeartbeats 2000000
namespace Go.Proofs.Ytjjhfdjpmonlaaa
open Go
namespace cmp_isNaN_int
noncomputable def C0 : Code := (Try.f77.body).getD .skip
/-- cmp.isNaN[int] -/
noncomputable def C1 := W.Code.snd C0
noncomputable def C2 := W.Code.snd C1
theorem ok (x0 : Int) (w : World) (R : W.Post) (h : R (.returned (.bool (x0 != x0))) w) : Calls Try.prog n_cmp_isNaN_int #[.int .i64 x0] w R :=
  W.calls_of_WP' (R := R) (fn := Try.f77) (c := C0) (args := [.int .i64 x0]) (by kernel_rfl) (by kernel_rfl) (by kernel_rfl) (W.sr C0 (by kernel_rfl) (show (fun (E : W.Env) (w : World) => W.srK Try.prog C0 (fun E w => W.srK Try.prog C1 (fun E w => W.retVC Try.prog Try.f77 E w (fun v => R (.returned v) w)) E w) E w) (W.envOf 0 [.int .i64 x0]) w from Eq.mp (by kernel_rfl) h) fun _ _ hK => (W.sr C1 (by kernel_rfl) hK fun _ _ hK => (W.rt C2 (by kernel_rfl) fun a hA => W.retVC_sound hA hK)))
end cmp_isNaN_int
namespace cmp_isNaN_uint64
noncomputable def C0 : Code := (Try.f78.body).getD .skip
/-- cmp.isNaN[uint64] -/
noncomputable def C1 := W.Code.snd C0
noncomputable def C2 := W.Code.snd C1
theorem ok (x0 : Int) (w : World) (R : W.Post) (h : R (.returned (.bool (x0 != x0))) w) : Calls Try.prog n_cmp_isNaN_uint64 #[.int .u64 x0] w R :=
  W.calls_of_WP' (R := R) (fn := Try.f78) (c := C0) (args := [.int .u64 x0]) (by kernel_rfl) (by kernel_rfl) (by kernel_rfl) (W.sr C0 (by kernel_rfl) (show (fun (E : W.Env) (w : World) => W.srK Try.prog C0 (fun E w => W.srK Try.prog C1 (fun E w => W.retVC Try.prog Try.f78 E w (fun v => R (.returned v) w)) E w) E w) (W.envOf 0 [.int .u64 x0]) w from Eq.mp (by kernel_rfl) h) fun _ _ hK => (W.sr C1 (by kernel_rfl) hK fun _ _ hK => (W.rt C2 (by kernel_rfl) fun a hA => W.retVC_sound hA hK)))
end cmp_isNaN_uint64
namespace cmp_isNaN_string
noncomputable def C0 : Code := (Try.f79.body).getD .skip
/-- cmp.isNaN[string] -/
noncomputable def C1 := W.Code.snd C0
noncomputable def C2 := W.Code.snd C1
theorem ok (x0 : ByteArray) (w : World) (R : W.Post) (h : R (.returned (.bool (!(x0.toList == x0.toList)))) w) : Calls Try.prog n_cmp_isNaN_string #[.string x0] w R :=
  W.calls_of_WP' (R := R) (fn := Try.f79) (c := C0) (args := [.string x0]) (by kernel_rfl) (by kernel_rfl) (by kernel_rfl) (W.sr C0 (by kernel_rfl) (show (fun (E : W.Env) (w : World) => W.srK Try.prog C0 (fun E w => W.srK Try.prog C1 (fun E w => W.retVC Try.prog Try.f79 E w (fun v => R (.returned v) w)) E w) E w) (W.envOf 0 [.string x0]) w from Eq.mp (by kernel_rfl) h) fun _ _ hK => (W.sr C1 (by kernel_rfl) hK fun _ _ hK => (W.rt C2 (by kernel_rfl) fun a hA => W.retVC_sound hA hK)))
end cmp_isNaN_string
namespace cmp_Compare_int
noncomputable def C0 : Code := (Try.f55.body).getD .skip
/-- cmp.Compare[int] -/
noncomputable def C1 := W.Code.snd C0
noncomputable def C2 := W.Code.snd C1
noncomputable def C3 := W.Code.snd C2
noncomputable def C4 := W.Code.fst C3
noncomputable def C5 := W.Code.snd C4
noncomputable def C6 := W.Code.fst C5
noncomputable def C7 := W.Code.fst C6
noncomputable def C8 := W.Code.snd C7
noncomputable def C9 := W.Code.fst C8
noncomputable def C10 := W.Code.snd C6
noncomputable def C11 := W.Code.snd C3
noncomputable def C12 := W.Code.fst C11
noncomputable def C13 := W.Code.snd C12
noncomputable def C14 := W.Code.fst C13
noncomputable def C15 := W.Code.snd C11
noncomputable def C16 := W.Code.fst C15
noncomputable def C17 := W.Code.snd C16
noncomputable def C18 := W.Code.fst C17
noncomputable def C19 := W.Code.snd C15
noncomputable def C20 := W.Code.fst C19
noncomputable def C21 := W.Code.snd C20
noncomputable def C22 := W.Code.fst C21
noncomputable def C23 := W.Code.snd C19
noncomputable def C24 := W.Code.snd C9
noncomputable def C25 := W.Code.snd C8
noncomputable def C26 := W.Code.snd C10
noncomputable def C27 := W.Code.snd C5
noncomputable def C28 := W.Code.snd C14
noncomputable def C29 := W.Code.snd C13
noncomputable def C30 := W.Code.snd C18
noncomputable def C31 := W.Code.snd C17
noncomputable def C32 := W.Code.snd C22
noncomputable def C33 := W.Code.snd C21
noncomputable def C34 := W.Code.snd C23
theorem ok (x0 y1 : Int) (w : World) (R : W.Post) (h : Calls Try.prog n_cmp_isNaN_int #[.int .i64 x0] w fun r_ w1 => ∃ t8 : Bool, r_ = .returned (.bool t8) ∧ 
  Calls Try.prog n_cmp_isNaN_int #[.int .i64 y1] w1 fun r_ w2 => ∃ t10 : Bool, r_ = .returned (.bool t10) ∧ 
  W.sel t8 (W.sel t10 (R (.returned (.int .i64 0)) w2) (R (.returned (.int .i64 (-1))) w2)) (W.sel t10 (R (.returned (.int .i64 1)) w2) (W.sel (decide (x0 < y1)) (R (.returned (.int .i64 (-1))) w2) (W.sel (decide (x0 > y1)) (R (.returned (.int .i64 1)) w2) (R (.returned (.int .i64 0)) w2))))) : Calls Try.prog n_cmp_Compare_int #[.int .i64 x0, .int .i64 y1] w R :=
  W.calls_of_WP' (R := R) (fn := Try.f55) (c := C0) (args := [.int .i64 x0, .int .i64 y1]) (by kernel_rfl) (by kernel_rfl) (by kernel_rfl) (W.sr C0 (by kernel_rfl) (show (fun (E : W.Env) (w : World) => W.srK Try.prog C0 (fun E w => W.srK Try.prog C1 (fun E w => W.srK Try.prog C2 (fun E w => W.srK Try.prog C4 (fun E w => W.condK (W.Env.val E (.tmp 11)) (W.srK Try.prog C7 (fun E w => W.condK (W.Env.val E (.tmp 12)) (W.srK Try.prog C9 (fun E w => W.retVC Try.prog Try.f55 E w (fun v => R (.returned v) w)) E w) (W.srK Try.prog C10 (fun E w => W.retVC Try.prog Try.f55 E w (fun v => R (.returned v) w)) E w)) E w) (W.srK Try.prog C12 (fun E w => W.condK (W.Env.val E (.tmp 13)) (W.srK Try.prog C14 (fun E w => W.retVC Try.prog Try.f55 E w (fun v => R (.returned v) w)) E w) (W.srK Try.prog C16 (fun E w => W.condK (W.Env.val E (.tmp 16)) (W.srK Try.prog C18 (fun E w => W.retVC Try.prog Try.f55 E w (fun v => R (.returned v) w)) E w) (W.srK Try.prog C20 (fun E w => W.condK (W.Env.val E (.tmp 19)) (W.srK Try.prog C22 (fun E w => W.retVC Try.prog Try.f55 E w (fun v => R (.returned v) w)) E w) (W.srK Try.prog C23 (fun E w => W.retVC Try.prog Try.f55 E w (fun v => R (.returned v) w)) E w)) E w)) E w)) E w)) E w) E w) E w) E w) (W.envOf 0 [.int .i64 x0, .int .i64 y1]) w from Eq.mp (by kernel_rfl) h) fun _ _ hK => (W.sr C1 (by kernel_rfl) hK fun _ _ hK => (W.sr C2 (by kernel_rfl) hK fun _ _ hK => (W.sq C3 (by kernel_rfl) (W.sr C4 (by kernel_rfl) hK fun _ _ hK => (W.cn C5 (by kernel_rfl) hK (fun hK => (W.sq C6 (by kernel_rfl) (W.sr C7 (by kernel_rfl) hK fun _ _ hK => (W.cn C8 (by kernel_rfl) hK (fun hK => (W.sr C9 (by kernel_rfl) hK fun _ _ hK => (W.rt C24 (by kernel_rfl) fun a hA => W.retVC_sound hA hK))) (fun hK => (W.sk C25 (by kernel_rfl) fun a hA => W.nx hA (W.sr C10 (by kernel_rfl) hK fun _ _ hK => (W.rt C26 (by kernel_rfl) fun a hA => W.retVC_sound hA hK)))))))) (fun hK => (W.sk C27 (by kernel_rfl) fun a hA => W.nx hA (W.sq C11 (by kernel_rfl) (W.sr C12 (by kernel_rfl) hK fun _ _ hK => (W.cn C13 (by kernel_rfl) hK (fun hK => (W.sr C14 (by kernel_rfl) hK fun _ _ hK => (W.rt C28 (by kernel_rfl) fun a hA => W.retVC_sound hA hK))) (fun hK => (W.sk C29 (by kernel_rfl) fun a hA => W.nx hA (W.sq C15 (by kernel_rfl) (W.sr C16 (by kernel_rfl) hK fun _ _ hK => (W.cn C17 (by kernel_rfl) hK (fun hK => (W.sr C18 (by kernel_rfl) hK fun _ _ hK => (W.rt C30 (by kernel_rfl) fun a hA => W.retVC_sound hA hK))) (fun hK => (W.sk C31 (by kernel_rfl) fun a hA => W.nx hA (W.sq C19 (by kernel_rfl) (W.sr C20 (by kernel_rfl) hK fun _ _ hK => (W.cn C21 (by kernel_rfl) hK (fun hK => (W.sr C22 (by kernel_rfl) hK fun _ _ hK => (W.rt C32 (by kernel_rfl) fun a hA => W.retVC_sound hA hK))) (fun hK => (W.sk C33 (by kernel_rfl) fun a hA => W.nx hA (W.sr C23 (by kernel_rfl) hK fun _ _ hK => (W.rt C34 (by kernel_rfl) fun a hA => W.retVC_sound hA hK)))))))))))))))))))))))))
end cmp_Compare_int
namespace cmp_Compare_uint64
noncomputable def C0 : Code := (Try.f56.body).getD .skip
/-- cmp.Compare[uint64] -/
noncomputable def C1 := W.Code.snd C0
noncomputable def C2 := W.Code.snd C1
noncomputable def C3 := W.Code.snd C2
noncomputable def C4 := W.Code.fst C3
noncomputable def C5 := W.Code.snd C4
noncomputable def C6 := W.Code.fst C5
noncomputable def C7 := W.Code.fst C6
noncomputable def C8 := W.Code.snd C7
noncomputable def C9 := W.Code.fst C8
noncomputable def C10 := W.Code.snd C6
noncomputable def C11 := W.Code.snd C3
noncomputable def C12 := W.Code.fst C11
noncomputable def C13 := W.Code.snd C12
noncomputable def C14 := W.Code.fst C13
noncomputable def C15 := W.Code.snd C11
noncomputable def C16 := W.Code.fst C15
noncomputable def C17 := W.Code.snd C16
noncomputable def C18 := W.Code.fst C17
noncomputable def C19 := W.Code.snd C15
noncomputable def C20 := W.Code.fst C19
noncomputable def C21 := W.Code.snd C20
noncomputable def C22 := W.Code.fst C21
noncomputable def C23 := W.Code.snd C19
noncomputable def C24 := W.Code.snd C9
noncomputable def C25 := W.Code.snd C8
noncomputable def C26 := W.Code.snd C10
noncomputable def C27 := W.Code.snd C5
noncomputable def C28 := W.Code.snd C14
noncomputable def C29 := W.Code.snd C13
noncomputable def C30 := W.Code.snd C18
noncomputable def C31 := W.Code.snd C17
noncomputable def C32 := W.Code.snd C22
noncomputable def C33 := W.Code.snd C21
noncomputable def C34 := W.Code.snd C23
theorem ok (x0 y1 : Int) (w : World) (R : W.Post) (h : Calls Try.prog n_cmp_isNaN_uint64 #[.int .u64 x0] w fun r_ w1 => ∃ t8 : Bool, r_ = .returned (.bool t8) ∧ 
  Calls Try.prog n_cmp_isNaN_uint64 #[.int .u64 y1] w1 fun r_ w2 => ∃ t10 : Bool, r_ = .returned (.bool t10) ∧ 
  W.sel t8 (W.sel t10 (R (.returned (.int .i64 0)) w2) (R (.returned (.int .i64 (-1))) w2)) (W.sel t10 (R (.returned (.int .i64 1)) w2) (W.sel (decide (x0 < y1)) (R (.returned (.int .i64 (-1))) w2) (W.sel (decide (x0 > y1)) (R (.returned (.int .i64 1)) w2) (R (.returned (.int .i64 0)) w2))))) : Calls Try.prog n_cmp_Compare_uint64 #[.int .u64 x0, .int .u64 y1] w R :=
  W.calls_of_WP' (R := R) (fn := Try.f56) (c := C0) (args := [.int .u64 x0, .int .u64 y1]) (by kernel_rfl) (by kernel_rfl) (by kernel_rfl) (W.sr C0 (by kernel_rfl) (show (fun (E : W.Env) (w : World) => W.srK Try.prog C0 (fun E w => W.srK Try.prog C1 (fun E w => W.srK Try.prog C2 (fun E w => W.srK Try.prog C4 (fun E w => W.condK (W.Env.val E (.tmp 11)) (W.srK Try.prog C7 (fun E w => W.condK (W.Env.val E (.tmp 12)) (W.srK Try.prog C9 (fun E w => W.retVC Try.prog Try.f56 E w (fun v => R (.returned v) w)) E w) (W.srK Try.prog C10 (fun E w => W.retVC Try.prog Try.f56 E w (fun v => R (.returned v) w)) E w)) E w) (W.srK Try.prog C12 (fun E w => W.condK (W.Env.val E (.tmp 13)) (W.srK Try.prog C14 (fun E w => W.retVC Try.prog Try.f56 E w (fun v => R (.returned v) w)) E w) (W.srK Try.prog C16 (fun E w => W.condK (W.Env.val E (.tmp 16)) (W.srK Try.prog C18 (fun E w => W.retVC Try.prog Try.f56 E w (fun v => R (.returned v) w)) E w) (W.srK Try.prog C20 (fun E w => W.condK (W.Env.val E (.tmp 19)) (W.srK Try.prog C22 (fun E w => W.retVC Try.prog Try.f56 E w (fun v => R (.returned v) w)) E w) (W.srK Try.prog C23 (fun E w => W.retVC Try.prog Try.f56 E w (fun v => R (.returned v) w)) E w)) E w)) E w)) E w)) E w) E w) E w) E w) (W.envOf 0 [.int .u64 x0, .int .u64 y1]) w from Eq.mp (by kernel_rfl) h) fun _ _ hK => (W.sr C1 (by kernel_rfl) hK fun _ _ hK => (W.sr C2 (by kernel_rfl) hK fun _ _ hK => (W.sq C3 (by kernel_rfl) (W.sr C4 (by kernel_rfl) hK fun _ _ hK => (W.cn C5 (by kernel_rfl) hK (fun hK => (W.sq C6 (by kernel_rfl) (W.sr C7 (by kernel_rfl) hK fun _ _ hK => (W.cn C8 (by kernel_rfl) hK (fun hK => (W.sr C9 (by kernel_rfl) hK fun _ _ hK => (W.rt C24 (by kernel_rfl) fun a hA => W.retVC_sound hA hK))) (fun hK => (W.sk C25 (by kernel_rfl) fun a hA => W.nx hA (W.sr C10 (by kernel_rfl) hK fun _ _ hK => (W.rt C26 (by kernel_rfl) fun a hA => W.retVC_sound hA hK)))))))) (fun hK => (W.sk C27 (by kernel_rfl) fun a hA => W.nx hA (W.sq C11 (by kernel_rfl) (W.sr C12 (by kernel_rfl) hK fun _ _ hK => (W.cn C13 (by kernel_rfl) hK (fun hK => (W.sr C14 (by kernel_rfl) hK fun _ _ hK => (W.rt C28 (by kernel_rfl) fun a hA => W.retVC_sound hA hK))) (fun hK => (W.sk C29 (by kernel_rfl) fun a hA => W.nx hA (W.sq C15 (by kernel_rfl) (W.sr C16 (by kernel_rfl) hK fun _ _ hK => (W.cn C17 (by kernel_rfl) hK (fun hK => (W.sr C18 (by kernel_rfl) hK fun _ _ hK => (W.rt C30 (by kernel_rfl) fun a hA => W.retVC_sound hA hK))) (fun hK => (W.sk C31 (by kernel_rfl) fun a hA => W.nx hA (W.sq C19 (by kernel_rfl) (W.sr C20 (by kernel_rfl) hK fun _ _ hK => (W.cn C21 (by kernel_rfl) hK (fun hK => (W.sr C22 (by kernel_rfl) hK fun _ _ hK => (W.rt C32 (by kernel_rfl) fun a hA => W.retVC_sound hA hK))) (fun hK => (W.sk C33 (by kernel_rfl) fun a hA => W.nx hA (W.sr C23 (by kernel_rfl) hK fun _ _ hK => (W.rt C34 (by kernel_rfl) fun a hA => W.retVC_sound hA hK)))))))))))))))))))))))))
end cmp_Compare_uint64
namespace cmp_Compare_string
noncomputable def C0 : Code := (Try.f57.body).getD .skip
/-- cmp.Compare[string] -/
noncomputable def C1 := W.Code.snd C0
noncomputable def C2 := W.Code.snd C1
noncomputable def C3 := W.Code.snd C2
noncomputable def C4 := W.Code.fst C3
noncomputable def C5 := W.Code.snd C4
noncomputable def C6 := W.Code.fst C5
noncomputable def C7 := W.Code.fst C6
noncomputable def C8 := W.Code.snd C7
noncomputable def C9 := W.Code.fst C8
noncomputable def C10 := W.Code.snd C6
noncomputable def C11 := W.Code.snd C3
noncomputable def C12 := W.Code.fst C11
noncomputable def C13 := W.Code.snd C12
noncomputable def C14 := W.Code.fst C13
noncomputable def C15 := W.Code.snd C11
noncomputable def C16 := W.Code.fst C15
noncomputable def C17 := W.Code.snd C16
noncomputable def C18 := W.Code.fst C17
noncomputable def C19 := W.Code.snd C15
noncomputable def C20 := W.Code.fst C19
noncomputable def C21 := W.Code.snd C20
noncomputable def C22 := W.Code.fst C21
noncomputable def C23 := W.Code.snd C19
noncomputable def C24 := W.Code.snd C9
noncomputable def C25 := W.Code.snd C8
noncomputable def C26 := W.Code.snd C10
noncomputable def C27 := W.Code.snd C5
noncomputable def C28 := W.Code.snd C14
noncomputable def C29 := W.Code.snd C13
noncomputable def C30 := W.Code.snd C18
noncomputable def C31 := W.Code.snd C17
noncomputable def C32 := W.Code.snd C22
noncomputable def C33 := W.Code.snd C21
noncomputable def C34 := W.Code.snd C23
theorem ok (x0 y1 : ByteArray) (w : World) (R : W.Post) (h : Calls Try.prog n_cmp_isNaN_string #[.string x0] w fun r_ w1 => ∃ t8 : Bool, r_ = .returned (.bool t8) ∧ 
  Calls Try.prog n_cmp_isNaN_string #[.string y1] w1 fun r_ w2 => ∃ t10 : Bool, r_ = .returned (.bool t10) ∧ 
  W.sel t8 (W.sel t10 (R (.returned (.int .i64 0)) w2) (R (.returned (.int .i64 (-1))) w2)) (W.sel t10 (R (.returned (.int .i64 1)) w2) (W.sel (Op.bytesLess x0.toList y1.toList) (R (.returned (.int .i64 (-1))) w2) (W.sel (!((Op.bytesLess x0.toList y1.toList) || (x0.toList == y1.toList))) (R (.returned (.int .i64 1)) w2) (R (.returned (.int .i64 0)) w2))))) : Calls Try.prog n_cmp_Compare_string #[.string x0, .string y1] w R :=
  W.calls_of_WP' (R := R) (fn := Try.f57) (c := C0) (args := [.string x0, .string y1]) (by kernel_rfl) (by kernel_rfl) (by kernel_rfl) (W.sr C0 (by kernel_rfl) (show (fun (E : W.Env) (w : World) => W.srK Try.prog C0 (fun E w => W.srK Try.prog C1 (fun E w => W.srK Try.prog C2 (fun E w => W.srK Try.prog C4 (fun E w => W.condK (W.Env.val E (.tmp 11)) (W.srK Try.prog C7 (fun E w => W.condK (W.Env.val E (.tmp 12)) (W.srK Try.prog C9 (fun E w => W.retVC Try.prog Try.f57 E w (fun v => R (.returned v) w)) E w) (W.srK Try.prog C10 (fun E w => W.retVC Try.prog Try.f57 E w (fun v => R (.returned v) w)) E w)) E w) (W.srK Try.prog C12 (fun E w => W.condK (W.Env.val E (.tmp 13)) (W.srK Try.prog C14 (fun E w => W.retVC Try.prog Try.f57 E w (fun v => R (.returned v) w)) E w) (W.srK Try.prog C16 (fun E w => W.condK (W.Env.val E (.tmp 16)) (W.srK Try.prog C18 (fun E w => W.retVC Try.prog Try.f57 E w (fun v => R (.returned v) w)) E w) (W.srK Try.prog C20 (fun E w => W.condK (W.Env.val E (.tmp 19)) (W.srK Try.prog C22 (fun E w => W.retVC Try.prog Try.f57 E w (fun v => R (.returned v) w)) E w) (W.srK Try.prog C23 (fun E w => W.retVC Try.prog Try.f57 E w (fun v => R (.returned v) w)) E w)) E w)) E w)) E w)) E w) E w) E w) E w) (W.envOf 0 [.string x0, .string y1]) w from Eq.mp (by kernel_rfl) h) fun _ _ hK => (W.sr C1 (by kernel_rfl) hK fun _ _ hK => (W.sr C2 (by kernel_rfl) hK fun _ _ hK => (W.sq C3 (by kernel_rfl) (W.sr C4 (by kernel_rfl) hK fun _ _ hK => (W.cn C5 (by kernel_rfl) hK (fun hK => (W.sq C6 (by kernel_rfl) (W.sr C7 (by kernel_rfl) hK fun _ _ hK => (W.cn C8 (by kernel_rfl) hK (fun hK => (W.sr C9 (by kernel_rfl) hK fun _ _ hK => (W.rt C24 (by kernel_rfl) fun a hA => W.retVC_sound hA hK))) (fun hK => (W.sk C25 (by kernel_rfl) fun a hA => W.nx hA (W.sr C10 (by kernel_rfl) hK fun _ _ hK => (W.rt C26 (by kernel_rfl) fun a hA => W.retVC_sound hA hK)))))))) (fun hK => (W.sk C27 (by kernel_rfl) fun a hA => W.nx hA (W.sq C11 (by kernel_rfl) (W.sr C12 (by kernel_rfl) hK fun _ _ hK => (W.cn C13 (by kernel_rfl) hK (fun hK => (W.sr C14 (by kernel_rfl) hK fun _ _ hK => (W.rt C28 (by kernel_rfl) fun a hA => W.retVC_sound hA hK))) (fun hK => (W.sk C29 (by kernel_rfl) fun a hA => W.nx hA (W.sq C15 (by kernel_rfl) (W.sr C16 (by kernel_rfl) hK fun _ _ hK => (W.cn C17 (by kernel_rfl) hK (fun hK => (W.sr C18 (by kernel_rfl) hK fun _ _ hK => (W.rt C30 (by kernel_rfl) fun a hA => W.retVC_sound hA hK))) (fun hK => (W.sk C31 (by kernel_rfl) fun a hA => W.nx hA (W.sq C19 (by kernel_rfl) (W.sr C20 (by kernel_rfl) hK fun _ _ hK => (W.cn C21 (by kernel_rfl) hK (fun hK => (W.sr C22 (by kernel_rfl) hK fun _ _ hK => (W.rt C32 (by kernel_rfl) fun a hA => W.retVC_sound hA hK))) (fun hK => (W.sk C33 (by kernel_rfl) fun a hA => W.nx hA (W.sr C23 (by kernel_rfl) hK fun _ _ hK => (W.rt C34 (by kernel_rfl) fun a hA => W.retVC_sound hA hK)))))))))))))))))))))))))
end cmp_Compare_string
namespace cmp_Or_int
noncomputable def C0 : Code := (Try.f54.body).getD .skip
noncomputable def C1 := W.Code.snd C0
noncomputable def C2 := W.Code.snd C1
noncomputable def C3 := W.Code.fst C2
noncomputable def C4 := W.Code.snd C3
noncomputable def C5 := W.Code.fst C4
noncomputable def C6 := W.Code.fst C5
noncomputable def C7 := W.Code.snd C2
abbrev Q0 (R : W.Post) : Exit → Act → World → Prop := (Exit.then (W.wpx Try.prog (W.cx 18) C7 (bodyPost Try.prog Try.f54 R)) (bodyPost Try.prog Try.f54 R))
abbrev Q1 (R : W.Post) : Exit → Act → World → Prop := (Exit.inBlock 0 (Q0 R))
/-- the head of the loop, cmp.go:71 -/
def L0 (zero3 : Int) (t6 : W.Sl) (t7 t8 : Int) (w : World) (R : W.Post) : Prop := W.LP Try.prog (W.cx 18) C6 (Q1 R) [(3, .int .i64 zero3), (6, t6.v), (7, .int .i64 t7), (8, .int .i64 t8)] w
def KE_L0 (E : W.Env) (w : World) (R : W.Post) : Prop := W.asInt .i64 (W.Env.get? E 3) fun zero3 => W.asSlice (W.Env.get? E 6) fun t6 => W.asInt .i64 (W.Env.get? E 7) fun t7 => W.asInt .i64 (W.Env.get? E 8) fun t8 => L0 zero3 t6 t7 t8 w R
theorem KE_L0_ok (R : W.Post) (E : W.Env) (w : World) (h : KE_L0 E w R) : W.LP Try.prog (W.cx 18) C6 (Q1 R) E w := by
  obtain ⟨zero3, hq3, h_1⟩ := W.asInt_elim h
  obtain ⟨t6, hq6, h_2⟩ := W.asSlice_elim h_1
  obtain ⟨t7, hq7, h_3⟩ := W.asInt_elim h_2
  obtain ⟨t8, hq8, h_4⟩ := W.asInt_elim h_3
  intro a ha
  exact h_4 a (ha.cons hq3 (ha.cons hq6 (ha.cons hq7 (ha.cons hq8 ha.nil))))
noncomputable def C8 := W.Code.snd C6
noncomputable def C9 := W.Code.snd C8
noncomputable def C10 := W.Code.fst C9
noncomputable def C11 := W.Code.fst C10
noncomputable def C12 := W.Code.snd C11
noncomputable def C13 := W.Code.snd C12
noncomputable def C14 := W.Code.fst C13
noncomputable def C15 := W.Code.snd C9
noncomputable def C16 := W.Code.fst C8
noncomputable def C17 := W.Code.fst C16
noncomputable def C18 := W.Code.snd C14
noncomputable def C19 := W.Code.snd C13
noncomputable def C20 := W.Code.snd C16
noncomputable def C21 := W.Code.snd C7
theorem L0_step (zero3 : Int) (t6 : W.Sl) (t7 t8 : Int) (w : World) (R : W.Post) (h : W.sel (decide (t8 < t7)) ((0 : Int) ≤ t8 ∧ t8 < ((t6.n : Nat) : Int) ∧ W.optP t6.a fun t10_p => ∃ t11 : Int, w.cell? (t10_p.add (Int.toNat t8 * 1)) = some (.int .i64 t11) ∧ 
  W.sel (t11 != zero3) (R (.returned (.int .i64 t11)) w) (L0 zero3 t6 t7 (IntKind.wrap .i64 (t8 + 1)) w R)) (R (.returned (.int .i64 zero3)) w)) : L0 zero3 t6 t7 t8 w R :=
  W.LP.step (n := (W.cx 18)) (c := C6) (E := [(3, .int .i64 zero3), (6, t6.v), (7, .int .i64 t7), (8, .int .i64 t8)]) (w := w) (W.sr C6 (by kernel_rfl) (show (fun (E : W.Env) (w : World) => W.srK Try.prog C6 (fun E w => W.condK (W.Env.val E (.tmp 9)) (W.srK Try.prog C11 (fun E w => W.srK Try.prog C12 (fun E w => W.condK (W.Env.val E (.tmp 14)) (W.srK Try.prog C14 (fun E w => W.retVC Try.prog Try.f54 E w (fun v => R (.returned v) w)) E w) (W.rgK Try.prog C15 (fun E w => KE_L0 E w R) E w)) E w) E w) (W.srK Try.prog C7 (fun E w => W.retVC Try.prog Try.f54 E w (fun v => R (.returned v) w)) E w)) E w) [(3, .int .i64 zero3), (6, t6.v), (7, .int .i64 t7), (8, .int .i64 t8)] w from Eq.mp (by kernel_rfl) h) fun _ _ hK => (W.sq C8 (by kernel_rfl) (W.cn C16 (by kernel_rfl) hK (fun hK => (W.sk C17 (by kernel_rfl) fun a hA => W.nx hA (W.sq C9 (by kernel_rfl) (W.bk C10 1 (by kernel_rfl) (W.sr C11 (by kernel_rfl) hK fun _ _ hK => (W.sr C12 (by kernel_rfl) hK fun _ _ hK => (W.cn C13 (by kernel_rfl) hK (fun hK => (W.sr C14 (by kernel_rfl) hK fun _ _ hK => (W.rt C18 (by kernel_rfl) fun a hA => W.retVC_sound hA hK))) (fun hK => (W.sk C19 (by kernel_rfl) fun a hA => W.nx hA (W.rg C15 (by kernel_rfl) hK fun _ _ a hA hK => KE_L0_ok R _ _ hK a hA)))))))))) (fun hK => (W.xt C20 0 (by kernel_rfl) fun a hA => W.nx hA (W.sr C7 (by kernel_rfl) hK fun _ _ hK => (W.rt C21 (by kernel_rfl) fun a hA => W.retVC_sound hA hK)))))))
/-- cmp.Or[int] -/
theorem ok (vals0 : W.Sl) (w : World) (R : W.Post) (h : L0 0 vals0 ((vals0.n : Nat) : Int) 0 w R) : Calls Try.prog n_cmp_Or_int #[vals0.v] w R :=
  W.calls_of_WP' (R := R) (fn := Try.f54) (c := C0) (args := [vals0.v]) (by kernel_rfl) (by kernel_rfl) (by kernel_rfl) (W.sr C0 (by kernel_rfl) (show (fun (E : W.Env) (w : World) => W.srK Try.prog C0 (fun E w => W.srK Try.prog C1 (fun E w => W.srK Try.prog C3 (fun E w => KE_L0 E w R) E w) E w) E w) (W.envOf 0 [vals0.v]) w from Eq.mp (by kernel_rfl) h) fun _ _ hK => (W.sr C1 (by kernel_rfl) hK fun _ _ hK => (W.sq C2 (by kernel_rfl) (W.sr C3 (by kernel_rfl) hK fun _ _ hK => (W.bk C4 0 (by kernel_rfl) (W.lp C5 (by kernel_rfl) (KE_L0_ok R _ _ hK)))))))
end cmp_Or_int
namespace value_Compare_1
noncomputable def C0 : Code := (Try.f59.body).getD .skip
/-- enthymeme/value.Compare$1 -/
noncomputable def C1 := W.Code.snd C0
noncomputable def C2 := W.Code.snd C1
theorem ok (x0_0 x0_1 : Int) (x0_2 : ByteArray) (y1_0 y1_1 : Int) (y1_2 : ByteArray) (w : World) (R : W.Post) (h : W.nwV w (.cells #[.int .u64 x0_0, .int .u64 x0_1, .string x0_2] ty_value_Entry) fun w1 => 
  W.nwV w1 (.cells #[.int .u64 y1_0, .int .u64 y1_1, .string y1_2] ty_value_Entry) fun w2 => 
  W.drV w2 fun w3 => ∃ t6 : Int, w3.cell? ((Addr.mk w.heap.size 0 none).add 0) = some (.int .u64 t6) ∧ 
  ∃ t8 : Int, w3.cell? ((Addr.mk w1.heap.size 0 none).add 0) = some (.int .u64 t8) ∧ 
  ∃ t11 : Int, w3.cell? ((Addr.mk w.heap.size 0 none).add 1) = some (.int .u64 t11) ∧ 
  ∃ t13 : Int, w3.cell? ((Addr.mk w1.heap.size 0 none).add 1) = some (.int .u64 t13) ∧ 
  ∃ t16 : ByteArray, w3.cell? ((Addr.mk w.heap.size 0 none).add 2) = some (.string t16) ∧ 
  ∃ t18 : ByteArray, w3.cell? ((Addr.mk w1.heap.size 0 none).add 2) = some (.string t18) ∧ 
  Calls Try.prog n_cmp_Compare_uint64 #[.int .u64 t6, .int .u64 t8] w3 fun r_ w4 => ∃ t9 : Int, r_ = .returned (.int .i64 t9) ∧ 
  w4.cell? ((Addr.mk w1.heap.size 0 none).add 2) = some (.string t18) ∧ w4.cell? ((Addr.mk w.heap.size 0 none).add 2) = some (.string t16) ∧ w4.cell? ((Addr.mk w1.heap.size 0 none).add 1) = some (.int .u64 t13) ∧ w4.cell? ((Addr.mk w.heap.size 0 none).add 1) = some (.int .u64 t11) ∧ Calls Try.prog n_cmp_Compare_uint64 #[.int .u64 t11, .int .u64 t13] w4 fun r_ w5 => ∃ t14 : Int, r_ = .returned (.int .i64 t14) ∧ 
  w5.cell? ((Addr.mk w1.heap.size 0 none).add 2) = some (.string t18) ∧ w5.cell? ((Addr.mk w.heap.size 0 none).add 2) = some (.string t16) ∧ Calls Try.prog n_cmp_Compare_string #[.string t16, .string t18] w5 fun r_ w6 => ∃ t19 : Int, r_ = .returned (.int .i64 t19) ∧ 
  W.nwV w6 (.cells #[.int .i64 t9, .int .i64 t14, .int .i64 t19] ty_int) fun w7 => 
  Calls Try.prog n_cmp_Or_int #[.slice (some (Addr.mk w6.heap.size 0 none)) 3 3] w7 fun r_ w8 => ∃ t21 : Int, r_ = .returned (.int .i64 t21) ∧ 
  R (.returned (.int .i64 t21)) w8) : Calls Try.prog n_value_Compare_1 #[.agg #[.int .u64 x0_0, .int .u64 x0_1, .string x0_2], .agg #[.int .u64 y1_0, .int .u64 y1_1, .string y1_2]] w R :=
  W.calls_of_WP' (R := R) (fn := Try.f59) (c := C0) (args := [.agg #[.int .u64 x0_0, .int .u64 x0_1, .string x0_2], .agg #[.int .u64 y1_0, .int .u64 y1_1, .string y1_2]]) (by kernel_rfl) (by kernel_rfl) (by kernel_rfl) (W.sr C0 (by kernel_rfl) (show (fun (E : W.Env) (w : World) => W.srK Try.prog C0 (fun E w => W.sdK Try.prog C1 [0, 1, 2, 3, 5, 6, 7, 8, 10, 11, 12, 13, 4, 9, 14, 15, 16, 17] (fun E w => W.retVC Try.prog Try.f59 E w (fun v => R (.returned v) w)) E w) E w) (W.envOf 0 [.agg #[.int .u64 x0_0, .int .u64 x0_1, .string x0_2], .agg #[.int .u64 y1_0, .int .u64 y1_1, .string y1_2]]) w from Eq.mp (by kernel_rfl) h) fun _ _ hK => (W.sd C1 (by kernel_rfl) hK fun _ _ hK => (W.rt C2 (by kernel_rfl) fun a hA => W.retVC_sound hA hK)))
theorem okT (x0_0 x0_1 : Int) (x0_2 : ByteArray) (y1_0 y1_1 : Int) (y1_2 : ByteArray) (w : World) (R : W.Post) (h : W.newV [] w fun b2 w1 => 
  W.newV [b2] w1 fun b3 w2 => 
  W.loc [b2, b3] w2 fun w3 => W.callF [b2, b3] Try.prog n_cmp_Compare_uint64 #[.int .u64 x0_0, .int .u64 y1_0] w3 fun r_ w4 => ∃ t9 : Int, r_ = .returned (.int .i64 t9) ∧ 
  W.callF [b2, b3] Try.prog n_cmp_Compare_uint64 #[.int .u64 x0_1, .int .u64 y1_1] w4 fun r_ w5 => ∃ t14 : Int, r_ = .returned (.int .i64 t14) ∧ 
  W.callF [b2, b3] Try.prog n_cmp_Compare_string #[.string x0_2, .string y1_2] w5 fun r_ w6 => ∃ t19 : Int, r_ = .returned (.int .i64 t19) ∧ 
  W.nwV w6 (.cells #[.int .i64 t9, .int .i64 t14, .int .i64 t19] ty_int) fun w7 => 
  W.callF [b2, b3] Try.prog n_cmp_Or_int #[.slice (some (Addr.mk w6.heap.size 0 none)) 3 3] w7 fun r_ w8 => ∃ t21 : Int, r_ = .returned (.int .i64 t21) ∧ 
  R (.returned (.int .i64 t21)) w8) : Calls Try.prog n_value_Compare_1 #[.agg #[.int .u64 x0_0, .int .u64 x0_1, .string x0_2], .agg #[.int .u64 y1_0, .int .u64 y1_1, .string y1_2]] w R :=
  ok _ _ _ _ _ _ w R (W.LC.nwT (W.LC.nil _) (W.Fr.refl _ _) h fun w1 H h => W.LC.nwT H (W.Fr.refl _ _) h fun w2 H h => W.LC.drT H (W.Fr.refl _ _) fun w3 H f => ⟨_, H.ld 0 0, ⟨_, H.ld 1 0, ⟨_, H.ld 0 1, ⟨_, H.ld 1 1, ⟨_, H.ld 0 2, ⟨_, H.ld 1 2, have h := h _ f; W.LC.callT H h fun r_ w4 H h => let ⟨t9, hr, h⟩ := h; ⟨t9, hr, ⟨H.ld 1 2, H.ld 0 2, H.ld 1 1, H.ld 0 1, W.LC.callT H h fun r_ w5 H h => let ⟨t14, hr, h⟩ := h; ⟨t14, hr, ⟨H.ld 1 2, H.ld 0 2, W.LC.callT H h fun r_ w6 H h => let ⟨t19, hr, h⟩ := h; ⟨t19, hr, W.LC.nwN H h fun w7 H h => W.LC.callT H h fun r_ w8 H h => let ⟨t21, hr, h⟩ := h; ⟨t21, hr, h⟩⟩⟩⟩⟩⟩⟩⟩⟩⟩⟩⟩)
end value_Compare_1
namespace value_compareLists_value_Entry
noncomputable def C0 : Code := (Try.f58.body).getD .skip
noncomputable def C1 := W.Code.snd C0
noncomputable def C2 := W.Code.fst C1
noncomputable def C3 := W.Code.snd C2
noncomputable def C4 := W.Code.fst C3
noncomputable def C5 := W.Code.fst C4
noncomputable def C6 := W.Code.snd C1
abbrev Q0 (R : W.Post) : Exit → Act → World → Prop := (Exit.then (W.wpx Try.prog (W.cx 39) C6 (bodyPost Try.prog Try.f58 R)) (bodyPost Try.prog Try.f58 R))
abbrev Q1 (R : W.Post) : Exit → Act → World → Prop := (Exit.inBlock 0 (Q0 R))
/-- the head of the loop, value.go:104 -/
def L0 (a0 b1 : W.Sl) (i7 : Int) (w : World) (R : W.Post) : Prop := W.LP Try.prog (W.cx 39) C5 (Q1 R) [(0, a0.v), (1, b1.v), (2, .func (.func n_value_Compare_1) #[] #[]), (7, .int .i64 i7)] w
def KE_L0 (E : W.Env) (w : World) (R : W.Post) : Prop := W.asSlice (W.Env.get? E 0) fun a0 => W.asSlice (W.Env.get? E 1) fun b1 => W.asFunc n_value_Compare_1 (W.Env.get? E 2) fun compare2_lf0 compare2_lc0 => W.asNil compare2_lf0 <| W.asNil compare2_lc0 <| W.asInt .i64 (W.Env.get? E 7) fun i7 => L0 a0 b1 i7 w R
theorem KE_L0_ok (R : W.Post) (E : W.Env) (w : World) (h : KE_L0 E w R) : W.LP Try.prog (W.cx 39) C5 (Q1 R) E w := by
  obtain ⟨a0, hq0, h_1⟩ := W.asSlice_elim h
  obtain ⟨b1, hq1, h_2⟩ := W.asSlice_elim h_1
  obtain ⟨compare2_lf0, compare2_lc0, hq2, h_3⟩ := W.asFunc_elim h_2
  obtain ⟨rfl, h_4⟩ := W.asNil_elim h_3
  obtain ⟨rfl, h_5⟩ := W.asNil_elim h_4
  obtain ⟨i7, hq7, h_6⟩ := W.asInt_elim h_5
  intro a ha
  exact h_6 a (ha.cons hq0 (ha.cons hq1 (ha.cons hq2 (ha.cons hq7 ha.nil))))
abbrev Q2 (R : W.Post) : Exit → Act → World → Prop := (bodyPost Try.prog Try.f58 R)
noncomputable def C7 := W.Code.snd C6
/-- value.go:109 -/
abbrev S1 (a0 b1 : W.Sl) (w : World) (R : W.Post) : Prop :=
  Calls Try.prog n_cmp_Compare_int #[.int .i64 ((a0.n : Nat) : Int), .int .i64 ((b1.n : Nat) : Int)] w fun r_ w1 => ∃ t38 : Int, r_ = .returned (.int .i64 t38) ∧ 
  R (.returned (.int .i64 t38)) w1
def KE_S1 (E : W.Env) (w : World) (R : W.Post) : Prop := W.asSlice (W.Env.get? E 0) fun a0 => W.asSlice (W.Env.get? E 1) fun b1 => S1 a0 b1 w R
theorem KE_S1_ok (R : W.Post) (E : W.Env) (w : World) (h : KE_S1 E w R) : W.WP Try.prog (W.cx 39) C6 (Q2 R) E w := by
  obtain ⟨a0, hq0, h_1⟩ := W.asSlice_elim h
  obtain ⟨b1, hq1, h_2⟩ := W.asSlice_elim h_1
  exact fun a ha => W.WP.at (E := [(0, a0.v), (1, b1.v)]) (W.sr C6 (K := fun E w => W.retVC Try.prog Try.f58 E w (fun v => R (.returned v) w)) (by kernel_rfl) (Eq.mp (by kernel_rfl) h_2) fun _ _ hK => (W.rt C7 (by kernel_rfl) fun a hA => W.retVC_sound hA hK)) (ha.cons hq0 (ha.cons hq1 ha.nil))
noncomputable def C8 := W.Code.fst C5
noncomputable def C9 := W.Code.snd C5
noncomputable def C10 := W.Code.fst C9
noncomputable def C11 := W.Code.fst C10
noncomputable def C12 := W.Code.snd C11
noncomputable def C13 := W.Code.snd C12
noncomputable def C14 := W.Code.fst C13
noncomputable def C15 := W.Code.snd C9
noncomputable def C16 := W.Code.snd C8
noncomputable def C17 := W.Code.fst C16
noncomputable def C18 := W.Code.snd C14
noncomputable def C19 := W.Code.snd C13
noncomputable def C20 := W.Code.snd C16
theorem L0_step (a0 b1 : W.Sl) (i7 : Int) (w : World) (R : W.Post) (h : W.sel (decide (i7 < ((a0.n : Nat) : Int))) (W.sel (decide (i7 < ((b1.n : Nat) : Int))) (W.drV w fun w1 => (0 : Int) ≤ i7 ∧ i7 < ((a0.n : Nat) : Int) ∧ W.optP a0.a fun t24_p => ∃ t25_0 : Int, ∃ t25_1 : Int, ∃ t25_2 : ByteArray, w1.cell? ((t24_p.add (Int.toNat i7 * 3)).add 0) = some (.int .u64 t25_0) ∧ w1.cell? ((t24_p.add (Int.toNat i7 * 3)).add 1) = some (.int .u64 t25_1) ∧ w1.cell? ((t24_p.add (Int.toNat i7 * 3)).add 2) = some (.string t25_2) ∧ 
  (0 : Int) ≤ i7 ∧ i7 < ((b1.n : Nat) : Int) ∧ W.optP b1.a fun t28_p => ∃ t29_0 : Int, ∃ t29_1 : Int, ∃ t29_2 : ByteArray, w1.cell? ((t28_p.add (Int.toNat i7 * 3)).add 0) = some (.int .u64 t29_0) ∧ w1.cell? ((t28_p.add (Int.toNat i7 * 3)).add 1) = some (.int .u64 t29_1) ∧ w1.cell? ((t28_p.add (Int.toNat i7 * 3)).add 2) = some (.string t29_2) ∧ 
  Calls Try.prog n_value_Compare_1 #[.agg #[.int .u64 t25_0, .int .u64 t25_1, .string t25_2], .agg #[.int .u64 t29_0, .int .u64 t29_1, .string t29_2]] w1 fun r_ w2 => ∃ t30 : Int, r_ = .returned (.int .i64 t30) ∧ 
  W.sel (t30 != 0) (R (.returned (.int .i64 t30)) w2) (L0 a0 b1 (IntKind.wrap .i64 (i7 + 1)) w2 R)) (S1 a0 b1 w R)) (S1 a0 b1 w R)) : L0 a0 b1 i7 w R :=
  W.LP.step (n := (W.cx 39)) (c := C5) (E := [(0, a0.v), (1, b1.v), (2, .func (.func n_value_Compare_1) #[] #[]), (7, .int .i64 i7)]) (w := w) (W.sq C5 (by kernel_rfl) (W.sr C8 (by kernel_rfl) (show (fun (E : W.Env) (w : World) => W.srK Try.prog C8 (fun E w => W.condK (W.Env.val E (.tmp 18)) (W.sdK Try.prog C11 [0, 1, 2, 3, 4, 5, 6, 7, 8, 9, 10] (fun E w => W.srK Try.prog C12 (fun E w => W.condK (W.Env.val E (.tmp 32)) (W.srK Try.prog C14 (fun E w => W.retVC Try.prog Try.f58 E w (fun v => R (.returned v) w)) E w) (W.rgK Try.prog C15 (fun E w => KE_L0 E w R) E w)) E w) E w) (KE_S1 E w R)) E w) [(0, a0.v), (1, b1.v), (2, .func (.func n_value_Compare_1) #[] #[]), (7, .int .i64 i7)] w from Eq.mp (by kernel_rfl) h) fun _ _ hK => (W.cn C16 (by kernel_rfl) hK (fun hK => (W.sk C17 (by kernel_rfl) fun a hA => W.nx hA (W.sq C9 (by kernel_rfl) (W.bk C10 1 (by kernel_rfl) (W.sd C11 (by kernel_rfl) hK fun _ _ hK => (W.sr C12 (by kernel_rfl) hK fun _ _ hK => (W.cn C13 (by kernel_rfl) hK (fun hK => (W.sr C14 (by kernel_rfl) hK fun _ _ hK => (W.rt C18 (by kernel_rfl) fun a hA => W.retVC_sound hA hK))) (fun hK => (W.sk C19 (by kernel_rfl) fun a hA => W.nx hA (W.rg C15 (by kernel_rfl) hK fun _ _ a hA hK => KE_L0_ok R _ _ hK a hA)))))))))) (fun hK => (W.xt C20 0 (by kernel_rfl) fun a hA => W.nx hA (KE_S1_ok R _ _ hK))))))
/-- enthymeme/value.compareLists[enthymeme/value.Entry] -/
theorem ok (a0 b1 : W.Sl) (w : World) (R : W.Post) (h : L0 a0 b1 0 w R) : Calls Try.prog n_value_compareLists_value_Entry #[a0.v, b1.v, .func (.func n_value_Compare_1) #[] #[]] w R :=
  W.calls_of_WP' (R := R) (fn := Try.f58) (c := C0) (args := [a0.v, b1.v, .func (.func n_value_Compare_1) #[] #[]]) (by kernel_rfl) (by kernel_rfl) (by kernel_rfl) (W.sr C0 (by kernel_rfl) (show (fun (E : W.Env) (w : World) => W.srK Try.prog C0 (fun E w => W.srK Try.prog C2 (fun E w => KE_L0 E w R) E w) E w) (W.envOf 0 [a0.v, b1.v, .func (.func n_value_Compare_1) #[] #[]]) w from Eq.mp (by kernel_rfl) h) fun _ _ hK => (W.sq C1 (by kernel_rfl) (W.sr C2 (by kernel_rfl) hK fun _ _ hK => (W.bk C3 0 (by kernel_rfl) (W.lp C4 (by kernel_rfl) (KE_L0_ok R _ _ hK))))))
end value_compareLists_value_Entry
namespace value_Compare
noncomputable def C0 : Code := (Try.f30.body).getD .skip
/-- enthymeme/value.Compare -/
noncomputable def C1 := W.Code.snd C0
noncomputable def C2 := W.Code.snd C1
noncomputable def C3 := W.Code.fst C2
noncomputable def C4 := W.Code.snd C3
noncomputable def C5 := W.Code.fst C4
noncomputable def C6 := W.Code.snd C2
noncomputable def C7 := W.Code.snd C5
noncomputable def C8 := W.Code.snd C4
noncomputable def C9 := W.Code.snd C6
theorem ok (a0_0 a0_1 a0_2 a0_3 : Int) (a0_4 : ByteArray) (a0_5 : W.Sl) (b1_0 b1_1 b1_2 b1_3 : Int) (b1_4 : ByteArray) (b1_5 : W.Sl) (w : World) (R : W.Post) (h : W.nwV w (.cells #[.int .i64 a0_0, .int .i64 a0_1, .int .i64 a0_2, .int .u64 a0_3, .string a0_4, a0_5.v] ty_value_Value) fun w1 => 
  W.nwV w1 (.cells #[.int .i64 b1_0, .int .i64 b1_1, .int .i64 b1_2, .int .u64 b1_3, .string b1_4, b1_5.v] ty_value_Value) fun w2 => 
  W.drV w2 fun w3 => ∃ t8 : Int, w3.cell? (((Addr.mk w.heap.size 0 none).add 0).add 0) = some (.int .i64 t8) ∧ 
  ∃ t11 : Int, w3.cell? (((Addr.mk w1.heap.size 0 none).add 0).add 0) = some (.int .i64 t11) ∧ 
  ∃ t15 : Int, w3.cell? (((Addr.mk w.heap.size 0 none).add 0).add 1) = some (.int .i64 t15) ∧ 
  ∃ t18 : Int, w3.cell? (((Addr.mk w1.heap.size 0 none).add 0).add 1) = some (.int .i64 t18) ∧ 
  ∃ t22 : Int, w3.cell? (((Addr.mk w.heap.size 0 none).add 0).add 2) = some (.int .i64 t22) ∧ 
  ∃ t25 : Int, w3.cell? (((Addr.mk w1.heap.size 0 none).add 0).add 2) = some (.int .i64 t25) ∧ 
  ∃ t28 : Int, w3.cell? ((Addr.mk w.heap.size 0 none).add 3) = some (.int .u64 t28) ∧ 
  ∃ t30 : Int, w3.cell? ((Addr.mk w1.heap.size 0 none).add 3) = some (.int .u64 t30) ∧ 
  ∃ t33 : ByteArray, w3.cell? ((Addr.mk w.heap.size 0 none).add 4) = some (.string t33) ∧ 
  ∃ t35 : ByteArray, w3.cell? ((Addr.mk w1.heap.size 0 none).add 4) = some (.string t35) ∧ 
  Calls Try.prog n_cmp_Compare_int #[.int .i64 t8, .int .i64 t11] w3 fun r_ w4 => ∃ t12 : Int, r_ = .returned (.int .i64 t12) ∧ 
  w4.cell? ((Addr.mk w1.heap.size 0 none).add 4) = some (.string t35) ∧ w4.cell? ((Addr.mk w.heap.size 0 none).add 4) = some (.string t33) ∧ w4.cell? ((Addr.mk w1.heap.size 0 none).add 3) = some (.int .u64 t30) ∧ w4.cell? ((Addr.mk w.heap.size 0 none).add 3) = some (.int .u64 t28) ∧ w4.cell? (((Addr.mk w1.heap.size 0 none).add 0).add 2) = some (.int .i64 t25) ∧ w4.cell? (((Addr.mk w.heap.size 0 none).add 0).add 2) = some (.int .i64 t22) ∧ w4.cell? (((Addr.mk w1.heap.size 0 none).add 0).add 1) = some (.int .i64 t18) ∧ w4.cell? (((Addr.mk w.heap.size 0 none).add 0).add 1) = some (.int .i64 t15) ∧ Calls Try.prog n_cmp_Compare_int #[.int .i64 t15, .int .i64 t18] w4 fun r_ w5 => ∃ t19 : Int, r_ = .returned (.int .i64 t19) ∧ 
  w5.cell? ((Addr.mk w1.heap.size 0 none).add 4) = some (.string t35) ∧ w5.cell? ((Addr.mk w.heap.size 0 none).add 4) = some (.string t33) ∧ w5.cell? ((Addr.mk w1.heap.size 0 none).add 3) = some (.int .u64 t30) ∧ w5.cell? ((Addr.mk w.heap.size 0 none).add 3) = some (.int .u64 t28) ∧ w5.cell? (((Addr.mk w1.heap.size 0 none).add 0).add 2) = some (.int .i64 t25) ∧ w5.cell? (((Addr.mk w.heap.size 0 none).add 0).add 2) = some (.int .i64 t22) ∧ Calls Try.prog n_cmp_Compare_int #[.int .i64 t22, .int .i64 t25] w5 fun r_ w6 => ∃ t26 : Int, r_ = .returned (.int .i64 t26) ∧ 
  w6.cell? ((Addr.mk w1.heap.size 0 none).add 4) = some (.string t35) ∧ w6.cell? ((Addr.mk w.heap.size 0 none).add 4) = some (.string t33) ∧ w6.cell? ((Addr.mk w1.heap.size 0 none).add 3) = some (.int .u64 t30) ∧ w6.cell? ((Addr.mk w.heap.size 0 none).add 3) = some (.int .u64 t28) ∧ Calls Try.prog n_cmp_Compare_uint64 #[.int .u64 t28, .int .u64 t30] w6 fun r_ w7 => ∃ t31 : Int, r_ = .returned (.int .i64 t31) ∧ 
  w7.cell? ((Addr.mk w1.heap.size 0 none).add 4) = some (.string t35) ∧ w7.cell? ((Addr.mk w.heap.size 0 none).add 4) = some (.string t33) ∧ Calls Try.prog n_cmp_Compare_string #[.string t33, .string t35] w7 fun r_ w8 => ∃ t36 : Int, r_ = .returned (.int .i64 t36) ∧ 
  W.nwV w8 (.cells #[.int .i64 t12, .int .i64 t19, .int .i64 t26, .int .i64 t31, .int .i64 t36] ty_int) fun w9 => 
  Calls Try.prog n_cmp_Or_int #[.slice (some (Addr.mk w8.heap.size 0 none)) 5 5] w9 fun r_ w10 => ∃ t38 : Int, r_ = .returned (.int .i64 t38) ∧ 
  W.sel (t38 != 0) (R (.returned (.int .i64 t38)) w10) (∃ t43 : W.Sl, w10.cell? ((Addr.mk w.heap.size 0 none).add 5) = some (t43.v) ∧ 
  ∃ t45 : W.Sl, w10.cell? ((Addr.mk w1.heap.size 0 none).add 5) = some (t45.v) ∧ 
  Calls Try.prog n_value_compareLists_value_Entry #[t43.v, t45.v, .func (.func n_value_Compare_1) #[] #[]] w10 fun r_ w11 => ∃ t46 : Int, r_ = .returned (.int .i64 t46) ∧ 
  R (.returned (.int .i64 t46)) w11)) : Calls Try.prog n_value_Compare #[.agg #[.int .i64 a0_0, .int .i64 a0_1, .int .i64 a0_2, .int .u64 a0_3, .string a0_4, a0_5.v], .agg #[.int .i64 b1_0, .int .i64 b1_1, .int .i64 b1_2, .int .u64 b1_3, .string b1_4, b1_5.v]] w R :=
  W.calls_of_WP' (R := R) (fn := Try.f30) (c := C0) (args := [.agg #[.int .i64 a0_0, .int .i64 a0_1, .int .i64 a0_2, .int .u64 a0_3, .string a0_4, a0_5.v], .agg #[.int .i64 b1_0, .int .i64 b1_1, .int .i64 b1_2, .int .u64 b1_3, .string b1_4, b1_5.v]]) (by kernel_rfl) (by kernel_rfl) (by kernel_rfl) (W.sr C0 (by kernel_rfl) (show (fun (E : W.Env) (w : World) => W.srK Try.prog C0 (fun E w => W.sdK Try.prog C1 [0, 1, 2, 3, 4, 5, 7, 8, 9, 10, 11, 12, 14, 15, 16, 17, 18, 19, 21, 22, 23, 24, 26, 27, 28, 29, 6, 13, 20, 25, 30, 31, 32, 33] (fun E w => W.srK Try.prog C3 (fun E w => W.condK (W.Env.val E (.tmp 40)) (W.srK Try.prog C5 (fun E w => W.retVC Try.prog Try.f30 E w (fun v => R (.returned v) w)) E w) (W.srK Try.prog C6 (fun E w => W.retVC Try.prog Try.f30 E w (fun v => R (.returned v) w)) E w)) E w) E w) E w) (W.envOf 0 [.agg #[.int .i64 a0_0, .int .i64 a0_1, .int .i64 a0_2, .int .u64 a0_3, .string a0_4, a0_5.v], .agg #[.int .i64 b1_0, .int .i64 b1_1, .int .i64 b1_2, .int .u64 b1_3, .string b1_4, b1_5.v]]) w from Eq.mp (by kernel_rfl) h) fun _ _ hK => (W.sd C1 (by kernel_rfl) hK fun _ _ hK => (W.sq C2 (by kernel_rfl) (W.sr C3 (by kernel_rfl) hK fun _ _ hK => (W.cn C4 (by kernel_rfl) hK (fun hK => (W.sr C5 (by kernel_rfl) hK fun _ _ hK => (W.rt C7 (by kernel_rfl) fun a hA => W.retVC_sound hA hK))) (fun hK => (W.sk C8 (by kernel_rfl) fun a hA => W.nx hA (W.sr C6 (by kernel_rfl) hK fun _ _ hK => (W.rt C9 (by kernel_rfl) fun a hA => W.retVC_sound hA hK)))))))))
theorem okT (a0_0 a0_1 a0_2 a0_3 : Int) (a0_4 : ByteArray) (a0_5 : W.Sl) (b1_0 b1_1 b1_2 b1_3 : Int) (b1_4 : ByteArray) (b1_5 : W.Sl) (w : World) (R : W.Post) (h : W.newV [] w fun b2 w1 => 
  W.newV [b2] w1 fun b3 w2 => 
  W.loc [b2, b3] w2 fun w3 => W.callF [b2, b3] Try.prog n_cmp_Compare_int #[.int .i64 a0_0, .int .i64 b1_0] w3 fun r_ w4 => ∃ t12 : Int, r_ = .returned (.int .i64 t12) ∧ 
  W.callF [b2, b3] Try.prog n_cmp_Compare_int #[.int .i64 a0_1, .int .i64 b1_1] w4 fun r_ w5 => ∃ t19 : Int, r_ = .returned (.int .i64 t19) ∧ 
  W.callF [b2, b3] Try.prog n_cmp_Compare_int #[.int .i64 a0_2, .int .i64 b1_2] w5 fun r_ w6 => ∃ t26 : Int, r_ = .returned (.int .i64 t26) ∧ 
  W.callF [b2, b3] Try.prog n_cmp_Compare_uint64 #[.int .u64 a0_3, .int .u64 b1_3] w6 fun r_ w7 => ∃ t31 : Int, r_ = .returned (.int .i64 t31) ∧ 
  W.callF [b2, b3] Try.prog n_cmp_Compare_string #[.string a0_4, .string b1_4] w7 fun r_ w8 => ∃ t36 : Int, r_ = .returned (.int .i64 t36) ∧ 
  W.nwV w8 (.cells #[.int .i64 t12, .int .i64 t19, .int .i64 t26, .int .i64 t31, .int .i64 t36] ty_int) fun w9 => 
  W.callF [b2, b3] Try.prog n_cmp_Or_int #[.slice (some (Addr.mk w8.heap.size 0 none)) 5 5] w9 fun r_ w10 => ∃ t38 : Int, r_ = .returned (.int .i64 t38) ∧ 
  W.sel (t38 != 0) (R (.returned (.int .i64 t38)) w10) (W.callF [b2, b3] Try.prog n_value_compareLists_value_Entry #[a0_5.v, b1_5.v, .func (.func n_value_Compare_1) #[] #[]] w10 fun r_ w11 => ∃ t46 : Int, r_ = .returned (.int .i64 t46) ∧ 
  R (.returned (.int .i64 t46)) w11)) : Calls Try.prog n_value_Compare #[.agg #[.int .i64 a0_0, .int .i64 a0_1, .int .i64 a0_2, .int .u64 a0_3, .string a0_4, a0_5.v], .agg #[.int .i64 b1_0, .int .i64 b1_1, .int .i64 b1_2, .int .u64 b1_3, .string b1_4, b1_5.v]] w R :=
  ok _ _ _ _ _ _ _ _ _ _ _ _ w R (W.LC.nwT (W.LC.nil _) (W.Fr.refl _ _) h fun w1 H h => W.LC.nwT H (W.Fr.refl _ _) h fun w2 H h => W.LC.drT H (W.Fr.refl _ _) fun w3 H f => ⟨_, H.ld 0 0, ⟨_, H.ld 1 0, ⟨_, H.ld 0 1, ⟨_, H.ld 1 1, ⟨_, H.ld 0 2, ⟨_, H.ld 1 2, ⟨_, H.ld 0 3, ⟨_, H.ld 1 3, ⟨_, H.ld 0 4, ⟨_, H.ld 1 4, have h := h _ f; W.LC.callT H h fun r_ w4 H h => let ⟨t12, hr, h⟩ := h; ⟨t12, hr, ⟨H.ld 1 4, H.ld 0 4, H.ld 1 3, H.ld 0 3, H.ld 1 2, H.ld 0 2, H.ld 1 1, H.ld 0 1, W.LC.callT H h fun r_ w5 H h => let ⟨t19, hr, h⟩ := h; ⟨t19, hr, ⟨H.ld 1 4, H.ld 0 4, H.ld 1 3, H.ld 0 3, H.ld 1 2, H.ld 0 2, W.LC.callT H h fun r_ w6 H h => let ⟨t26, hr, h⟩ := h; ⟨t26, hr, ⟨H.ld 1 4, H.ld 0 4, H.ld 1 3, H.ld 0 3, W.LC.callT H h fun r_ w7 H h => let ⟨t31, hr, h⟩ := h; ⟨t31, hr, ⟨H.ld 1 4, H.ld 0 4, W.LC.callT H h fun r_ w8 H h => let ⟨t36, hr, h⟩ := h; ⟨t36, hr, W.LC.nwN H h fun w9 H h => W.LC.callT H h fun r_ w10 H h => let ⟨t38, hr, h⟩ := h; ⟨t38, hr, W.sel_imp h (fun h => h) (fun h => ⟨a0_5, H.ld 0 5, ⟨b1_5, H.ld 1 5, W.LC.callT H h fun r_ w11 H h => let ⟨t46, hr, h⟩ := h; ⟨t46, hr, h⟩⟩⟩)⟩⟩⟩⟩⟩⟩⟩⟩⟩⟩⟩⟩⟩⟩⟩⟩⟩⟩⟩⟩)
end value_Compare
end Go.Proofs.Ytjjhfdjpmonlaaa
