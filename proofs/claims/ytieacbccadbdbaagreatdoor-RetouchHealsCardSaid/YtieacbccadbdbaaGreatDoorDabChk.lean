/- dab.Check, by the program and by the reference (printed by gendab.py). -/
import Derived.Test.YtieacbccadbdbaaGreatDoorLDyn
import Derived.Test.YtieacbccadbdbaaGreatDoorLPix
import Derived.Test.YtieacbccadbdbaaGreatDoorLPix
import Derived.Deep.Cut
namespace Go.Proofs.YtieacbccadbdbaaGreatDoor
open Go.RowKit
set_option linter.unusedVariables false

set_option maxHeartbeats 400000 in
theorem within_any (x lo hi : Int) (w : World) :
    Calls Tryz.prog 114 #[.int .i64 x, .int .i64 lo, .int .i64 hi] w fun e w' => e = .returned (.bool (inB x lo hi)) ∧ w = w' := by
  rcases (by omega : ¬ lo ≤ x ∨ (lo ≤ x ∧ ¬ x ≤ hi) ∨ (lo ≤ x ∧ x ≤ hi)) with h | ⟨h, h2⟩ | ⟨h, h2⟩
  · have HE : Hid (inB x lo hi = false) := decide_eq_false (by omega)
    go_enter Tryz.func114, Tryz.ntmps114
    go_wp2
    go_ret
    exact ⟨ret_bool (by rw [HE.out]), rfl⟩
  · have HE : Hid (inB x lo hi = false) := decide_eq_false (by omega)
    go_enter Tryz.func114, Tryz.ntmps114
    go_wp2
    go_ret
    exact ⟨ret_bool (by rw [HE.out]), rfl⟩
  · have HE : Hid (inB x lo hi = true) := decide_eq_true (by omega)
    go_enter Tryz.func114, Tryz.ntmps114
    go_wp2
    go_ret
    exact ⟨ret_bool (by rw [HE.out]), rfl⟩

set_option maxHeartbeats 400000 in
theorem dabUnit_any (x : Int) (w : World) :
    Calls Tryz.prog 115 #[.int .i64 x] w fun e w' => e = .returned (.bool (inB x 0 65535)) ∧ w = w' := by
  have C := Lib.hid (fun w => within_any x 0 65535 w)
  generalize inB x 0 65535 = b at *
  go_enter Tryz.func115, Tryz.ntmps115
  go_wp2_with fail
  refine (C.out _).mono ?_
  rintro e w' ⟨rfl, rfl⟩
  go_wp2_with fail
  go_ret
  exact ⟨rfl, rfl⟩

set_option maxHeartbeats 4000000 in
theorem dabCheck_any (B : Bru) (u : Value) (w : World) (h : Dn w u B.ds) :
    Calls Tryz.prog 76 #[brv B u] w fun e w' => e = .returned (.int .i64 (bchk B)) ∧ Below w.heap.size w w' := by
  have HD := Lib.hid h
  obtain ⟨a, cap, rfl, _, _⟩ := h
  have HE := Lib.hid (bchk_def B)
  have C_sz := Lib.hid (fun w => within_any B.sz 1 1024 w)
  generalize inB B.sz 1 1024 = b_sz at *
  have C_hd := Lib.hid (fun w => dabUnit_any B.hd w)
  generalize inB B.hd 0 65535 = b_hd at *
  have C_fl := Lib.hid (fun w => dabUnit_any B.fl w)
  generalize inB B.fl 0 65535 = b_fl at *
  have C_op := Lib.hid (fun w => dabUnit_any B.op w)
  generalize inB B.op 0 65535 = b_op at *
  have C_rn := Lib.hid (fun w => within_any B.rn 4096 65535 w)
  generalize inB B.rn 4096 65535 = b_rn at *
  have C_sp := Lib.hid (fun w => within_any B.sp 1 1000 w)
  generalize inB B.sp 1 1000 = b_sp at *
  have C_an := Lib.hid (fun w => within_any B.an 0 65535 w)
  generalize inB B.an 0 65535 = b_an at *
  have C_sc := Lib.hid (fun w => within_any B.sc 0 1000 w)
  generalize inB B.sc 0 1000 = b_sc at *
  have C_md := Lib.hid (fun w => within_any B.md 0 17 w)
  generalize inB B.md 0 17 = b_md at *
  have C_px := Lib.hid (fun w => valid_any B.r B.g B.b B.a w)
  have EX : decide (B.r = cl B.r ∧ B.g = cl B.g ∧ B.b = cl B.b ∧ B.a = cl B.a) = pxOk B.r B.g B.b B.a := rfl
  rw [EX] at C_px
  clear EX
  generalize pxOk B.r B.g B.b B.a = b_px at *
  have C_sd := Lib.hid (fun w => within_any B.sd 0 1073741824 w)
  generalize inB B.sd 0 1073741824 = b_sd at *
  have CD := Lib.hid (fun w h => dynCheck_any (.slice a B.ds.length cap) B.ds w h)
  generalize dchk B.ds = E at *
  generalize B.ds.length = n at *
  go_enter Tryz.func76, Tryz.ntmps76
  go_upto_region 1 with (fail)
  refine name1 (fun W k1 hb => ?_)
  have c1 := k1.c16
  go_wp2_with fail
  refine (C_sz.out _).mono ?_
  rintro e w' ⟨rfl, rfl⟩
  cases b_sz with
  | false =>
    go_wp2_with fail
    go_ret
    exact ⟨ret_int (by rw [HE.out]; simp), hb⟩
  | true =>
    go_wp2_with fail
    refine (C_hd.out _).mono ?_
    rintro e w' ⟨rfl, rfl⟩
    cases b_hd with
    | false =>
      go_wp2_with fail
      go_ret
      exact ⟨ret_int (by rw [HE.out]; simp), hb⟩
    | true =>
      go_wp2_with fail
      refine (C_fl.out _).mono ?_
      rintro e w' ⟨rfl, rfl⟩
      cases b_fl with
      | false =>
        go_wp2_with fail
        go_ret
        exact ⟨ret_int (by rw [HE.out]; simp), hb⟩
      | true =>
        go_wp2_with fail
        refine (C_op.out _).mono ?_
        rintro e w' ⟨rfl, rfl⟩
        cases b_op with
        | false =>
          go_wp2_with fail
          go_ret
          exact ⟨ret_int (by rw [HE.out]; simp), hb⟩
        | true =>
          go_wp2_with fail
          refine (C_rn.out _).mono ?_
          rintro e w' ⟨rfl, rfl⟩
          cases b_rn with
          | false =>
            go_wp2_with fail
            go_ret
            exact ⟨ret_int (by rw [HE.out]; simp), hb⟩
          | true =>
            go_wp2_with fail
            refine (C_sp.out _).mono ?_
            rintro e w' ⟨rfl, rfl⟩
            cases b_sp with
            | false =>
              go_wp2_with fail
              go_ret
              exact ⟨ret_int (by rw [HE.out]; simp), hb⟩
            | true =>
              go_wp2_with fail
              refine (C_an.out _).mono ?_
              rintro e w' ⟨rfl, rfl⟩
              cases b_an with
              | false =>
                go_wp2_with fail
                go_ret
                exact ⟨ret_int (by rw [HE.out]; simp), hb⟩
              | true =>
                go_wp2_with fail
                refine (C_sc.out _).mono ?_
                rintro e w' ⟨rfl, rfl⟩
                cases b_sc with
                | false =>
                  go_wp2_with fail
                  go_ret
                  exact ⟨ret_int (by rw [HE.out]; simp), hb⟩
                | true =>
                  go_wp2_with fail
                  refine (C_md.out _).mono ?_
                  rintro e w' ⟨rfl, rfl⟩
                  cases b_md with
                  | false =>
                    go_wp2_with fail
                    go_ret
                    exact ⟨ret_int (by rw [HE.out]; simp), hb⟩
                  | true =>
                    go_wp2_with fail
                    refine (C_px.out _).mono ?_
                    rintro e W1 ⟨rfl, hS⟩
                    replace k1 := k1.kept hS
                    replace hb := hb.trans (hS.mono hb.size)
                    clear hS c1
                    have c1 := k1.c16
                    cases b_px with
                    | false =>
                      go_wp2_with fail
                      go_ret
                      exact ⟨ret_int (by rw [HE.out]; simp), hb⟩
                    | true =>
                      go_wp2_with fail
                      refine (C_sd.out _).mono ?_
                      rintro e w' ⟨rfl, rfl⟩
                      cases b_sd with
                      | false =>
                        go_wp2_with fail
                        go_ret
                        exact ⟨ret_int (by rw [HE.out]; simp), hb⟩
                      | true =>
                        go_wp2_with fail
                        refine (CD.out _ (HD.out.kept hb)).mono ?_
                        rintro e W2 ⟨rfl, hS⟩
                        replace hb := hb.trans (hS.mono hb.size)
                        go_wp2_with fail
                        go_ret
                        exact ⟨ret_int (by rw [HE.out]; simp), hb⟩

set_option maxHeartbeats 400000 in
theorem refIn_any (x lo hi : Int) (w : World) :
    Calls Tryz.prog 119 #[.int .i64 x, .int .i64 lo, .int .i64 hi] w fun e w' => e = .returned (.bool (inB x lo hi)) ∧ w = w' := by
  rcases (by omega : ¬ lo ≤ x ∨ (lo ≤ x ∧ ¬ x ≤ hi) ∨ (lo ≤ x ∧ x ≤ hi)) with h | ⟨h, h2⟩ | ⟨h, h2⟩
  · have HE : Hid (inB x lo hi = false) := decide_eq_false (by omega)
    go_enter Tryz.func119, Tryz.ntmps119
    go_wp2
    go_ret
    exact ⟨ret_bool (by rw [HE.out]), rfl⟩
  · have HE : Hid (inB x lo hi = false) := decide_eq_false (by omega)
    go_enter Tryz.func119, Tryz.ntmps119
    go_wp2
    go_ret
    exact ⟨ret_bool (by rw [HE.out]), rfl⟩
  · have HE : Hid (inB x lo hi = true) := decide_eq_true (by omega)
    go_enter Tryz.func119, Tryz.ntmps119
    go_wp2
    go_ret
    exact ⟨ret_bool (by rw [HE.out]), rfl⟩

set_option maxHeartbeats 4000000 in
theorem refDabCheck_any (B : Bru) (u : Value) (w : World) (h : Dn w u B.ds) :
    Calls Tryz.prog 82 #[brv B u] w fun e w' => e = .returned (.int .i64 (bchk B)) ∧ Below w.heap.size w w' := by
  have HD := Lib.hid h
  obtain ⟨a, cap, rfl, _, _⟩ := h
  have HE := Lib.hid (bchk_def B)
  have C_sz := Lib.hid (fun w => refIn_any B.sz 1 1024 w)
  generalize inB B.sz 1 1024 = b_sz at *
  have C_hd := Lib.hid (fun w => refIn_any B.hd 0 65535 w)
  generalize inB B.hd 0 65535 = b_hd at *
  have C_fl := Lib.hid (fun w => refIn_any B.fl 0 65535 w)
  generalize inB B.fl 0 65535 = b_fl at *
  have C_op := Lib.hid (fun w => refIn_any B.op 0 65535 w)
  generalize inB B.op 0 65535 = b_op at *
  have C_rn := Lib.hid (fun w => refIn_any B.rn 4096 65535 w)
  generalize inB B.rn 4096 65535 = b_rn at *
  have C_sp := Lib.hid (fun w => refIn_any B.sp 1 1000 w)
  generalize inB B.sp 1 1000 = b_sp at *
  have C_an := Lib.hid (fun w => refIn_any B.an 0 65535 w)
  generalize inB B.an 0 65535 = b_an at *
  have C_sc := Lib.hid (fun w => refIn_any B.sc 0 1000 w)
  generalize inB B.sc 0 1000 = b_sc at *
  have C_md := Lib.hid (fun w => refIn_any B.md 0 17 w)
  generalize inB B.md 0 17 = b_md at *
  have C_px := Lib.hid (fun w => refValid_any B.r B.g B.b B.a w)
  have EX : decide (B.r = cl B.r ∧ B.g = cl B.g ∧ B.b = cl B.b ∧ B.a = cl B.a) = pxOk B.r B.g B.b B.a := rfl
  rw [EX] at C_px
  clear EX
  generalize pxOk B.r B.g B.b B.a = b_px at *
  have C_sd := Lib.hid (fun w => refIn_any B.sd 0 1073741824 w)
  generalize inB B.sd 0 1073741824 = b_sd at *
  have CD := Lib.hid (fun w h => refDynCheck_any (.slice a B.ds.length cap) B.ds w h)
  generalize dchk B.ds = E at *
  generalize B.ds.length = n at *
  go_enter Tryz.func82, Tryz.ntmps82
  go_upto_region 1 with (fail)
  refine name1 (fun W k1 hb => ?_)
  have c1 := k1.c16
  go_wp2_with fail
  refine (C_sz.out _).mono ?_
  rintro e w' ⟨rfl, rfl⟩
  cases b_sz with
  | false =>
    go_wp2_with fail
    go_ret
    exact ⟨ret_int (by rw [HE.out]; simp), hb⟩
  | true =>
    go_wp2_with fail
    refine (C_hd.out _).mono ?_
    rintro e w' ⟨rfl, rfl⟩
    cases b_hd with
    | false =>
      go_wp2_with fail
      go_ret
      exact ⟨ret_int (by rw [HE.out]; simp), hb⟩
    | true =>
      go_wp2_with fail
      refine (C_fl.out _).mono ?_
      rintro e w' ⟨rfl, rfl⟩
      cases b_fl with
      | false =>
        go_wp2_with fail
        go_ret
        exact ⟨ret_int (by rw [HE.out]; simp), hb⟩
      | true =>
        go_wp2_with fail
        refine (C_op.out _).mono ?_
        rintro e w' ⟨rfl, rfl⟩
        cases b_op with
        | false =>
          go_wp2_with fail
          go_ret
          exact ⟨ret_int (by rw [HE.out]; simp), hb⟩
        | true =>
          go_wp2_with fail
          refine (C_rn.out _).mono ?_
          rintro e w' ⟨rfl, rfl⟩
          cases b_rn with
          | false =>
            go_wp2_with fail
            go_ret
            exact ⟨ret_int (by rw [HE.out]; simp), hb⟩
          | true =>
            go_wp2_with fail
            refine (C_sp.out _).mono ?_
            rintro e w' ⟨rfl, rfl⟩
            cases b_sp with
            | false =>
              go_wp2_with fail
              go_ret
              exact ⟨ret_int (by rw [HE.out]; simp), hb⟩
            | true =>
              go_wp2_with fail
              refine (C_an.out _).mono ?_
              rintro e w' ⟨rfl, rfl⟩
              cases b_an with
              | false =>
                go_wp2_with fail
                go_ret
                exact ⟨ret_int (by rw [HE.out]; simp), hb⟩
              | true =>
                go_wp2_with fail
                refine (C_sc.out _).mono ?_
                rintro e w' ⟨rfl, rfl⟩
                cases b_sc with
                | false =>
                  go_wp2_with fail
                  go_ret
                  exact ⟨ret_int (by rw [HE.out]; simp), hb⟩
                | true =>
                  go_wp2_with fail
                  refine (C_md.out _).mono ?_
                  rintro e w' ⟨rfl, rfl⟩
                  cases b_md with
                  | false =>
                    go_wp2_with fail
                    go_ret
                    exact ⟨ret_int (by rw [HE.out]; simp), hb⟩
                  | true =>
                    go_wp2_with fail
                    refine (C_px.out _).mono ?_
                    rintro e W1 ⟨rfl, hS⟩
                    replace k1 := k1.kept hS
                    replace hb := hb.trans (hS.mono hb.size)
                    clear hS c1
                    have c1 := k1.c16
                    cases b_px with
                    | false =>
                      go_wp2_with fail
                      go_ret
                      exact ⟨ret_int (by rw [HE.out]; simp), hb⟩
                    | true =>
                      go_wp2_with fail
                      refine (C_sd.out _).mono ?_
                      rintro e w' ⟨rfl, rfl⟩
                      cases b_sd with
                      | false =>
                        go_wp2_with fail
                        go_ret
                        exact ⟨ret_int (by rw [HE.out]; simp), hb⟩
                      | true =>
                        go_wp2_with fail
                        refine (CD.out _ (HD.out.kept hb)).mono ?_
                        rintro e W2 ⟨rfl, hS⟩
                        replace hb := hb.trans (hS.mono hb.size)
                        go_wp2_with fail
                        go_ret
                        exact ⟨ret_int (by rw [HE.out]; simp), hb⟩

end Go.Proofs.YtieacbccadbdbaaGreatDoor

