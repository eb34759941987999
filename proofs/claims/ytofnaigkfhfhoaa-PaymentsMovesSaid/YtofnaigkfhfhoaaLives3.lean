/-
  The law's own example (package countinghouselaw03).
-/
import Derived.Test.YtofnaigkfhfhoaaLStep
namespace Go.Proofs.Ytofnaigkfhfhoaa
open Go.RowKit Go.Maps Pl
attribute [local go_sem ↓] Go.wp_at_zero Go.wp_at_succ

def s3a : Nat → Bool := lopenS (fun _ => false) 1
def s3b : Nat → Bool := lopenS s3a 2
def s3c : Nat → Bool := lopenS s3b 3
def l3a : List Ln := [⟨1, 2, 7, 100, 0⟩]
def l3b : List Ln := [⟨1, 2, 7, 100, 60⟩]
def l3c : List Ln := [⟨1, 2, 7, 100, 60⟩, ⟨2, 1, 7, 10, 0⟩]
def l3d : List Ln := [⟨1, 2, 7, 100, 0⟩, ⟨2, 1, 7, 10, 5⟩]

set_option maxRecDepth 100000 in
set_option maxHeartbeats 4000000 in
theorem lives3 (w : World) : Calls Try.prog 33 #[] w fun e w' => e = .returned (.bool true) ∧ Chg [] w w' := by
  go_enter Try.func33, Try.ntmps33
  go_wp2_with fail
  refine (ls_new w).mono ?_
  rintro e w1 ⟨lb, mb, rfl, hh⟩
  have H := Lib.hid hh
  clear hh
  go_wp2_with fail
  refine (ls_open H.out (p := 1) (q := 1) rfl (by decide) (r := 0) (S' := s3a) (by decide) rfl).mono ?_
  rintro e w2 ⟨rfl, hh⟩
  replace H := Lib.hid hh
  clear hh
  go_wp2_with fail
  refine (ls_open H.out (p := 2) (q := 2) rfl (by decide) (r := 0) (S' := s3b) (by decide) rfl).mono ?_
  rintro e w3 ⟨rfl, hh⟩
  replace H := Lib.hid hh
  clear hh
  go_wp2_with fail
  refine (ls_open H.out (p := 3) (q := 3) rfl (by decide) (r := 0) (S' := s3c) (by decide) rfl).mono ?_
  rintro e w4 ⟨rfl, hh⟩
  replace H := Lib.hid hh
  clear hh
  go_wp2_with fail
  refine (ls_open H.out (p := 3) (q := 3) rfl (by decide) (r := 8) (S' := s3c) (by decide) rfl).mono ?_
  rintro e w5 ⟨rfl, hh⟩
  replace H := Lib.hid hh
  clear hh
  go_wp2_with fail
  refine (ls_trust H.out (c := 1) (c' := 1) (d := 2) (d' := 2) (u := 7) (u' := 7) rfl rfl rfl (n := 100) (r := 0) (L' := l3a) (by decide) (by decide)).mono ?_
  rintro e w6 ⟨rfl, hh⟩
  replace H := Lib.hid hh
  clear hh
  go_wp2_with fail
  refine (ls_room H.out (c := 2) (c' := 2) (d := 1) (d' := 1) (u := 7) (u' := 7) rfl rfl rfl (by decide) (by decide) (by decide) (r := 100) (by decide)).mono ?_
  rintro e w7 ⟨rfl, hh⟩
  replace H := Lib.hid hh
  clear hh
  go_wp2_with fail
  refine (ls_room H.out (c := 1) (c' := 1) (d := 2) (d' := 2) (u := 7) (u' := 7) rfl rfl rfl (by decide) (by decide) (by decide) (r := 0) (by decide)).mono ?_
  rintro e w8 ⟨rfl, hh⟩
  replace H := Lib.hid hh
  clear hh
  go_wp2_with fail
  refine (ls_push H.out (c := 2) (c' := 2) (d := 1) (d' := 1) (u := 7) (u' := 7) rfl rfl rfl (by decide) (by decide) (by decide) (n := 60) (r := 0) (L' := l3b) (by decide) (by decide)).mono ?_
  rintro e w9 ⟨rfl, hh⟩
  replace H := Lib.hid hh
  clear hh
  go_wp2_with fail
  refine (ls_line H.out (c := 1) (c' := 1) (d := 2) (d' := 2) (u := 7) (u' := 7) rfl rfl rfl (by decide) (by decide) (by decide) (lm := 100) (db := 60) (by decide)).mono ?_
  rintro e w10 ⟨rfl, hh⟩
  replace H := Lib.hid hh
  clear hh
  go_wp2_with fail
  refine (ls_room (H.out.chg0 ((Chg.refl _ _).alloc _)) (c := 1) (c' := 1) (d := 2) (d' := 2) (u := 7) (u' := 7) rfl rfl rfl (by decide) (by decide) (by decide) (r := 60) (by decide)).mono ?_
  rintro e w11 ⟨rfl, hh⟩
  replace H := Lib.hid hh
  clear hh
  go_wp2_with fail
  refine (ls_pos H.out (p := 1) (p' := 1) (c := 7) (c' := 7) rfl rfl (r := 60) (by decide)).mono ?_
  rintro e w12 ⟨rfl, hh⟩
  replace H := Lib.hid hh
  clear hh
  go_wp2_with fail
  refine (ls_pos H.out (p := 2) (p' := 2) (c := 7) (c' := 7) rfl rfl (r := -60) (by decide)).mono ?_
  rintro e w13 ⟨rfl, hh⟩
  replace H := Lib.hid hh
  clear hh
  go_wp2_with fail
  refine (ls_trust H.out (c := 1) (c' := 1) (d := 2) (d' := 2) (u := 7) (u' := 7) rfl rfl rfl (n := 59) (r := 14) (L' := l3b) (by decide) (by decide)).mono ?_
  rintro e w14 ⟨rfl, hh⟩
  replace H := Lib.hid hh
  clear hh
  go_wp2_with fail
  refine (ls_trust H.out (c := 2) (c' := 2) (d := 1) (d' := 1) (u := 7) (u' := 7) rfl rfl rfl (n := 10) (r := 0) (L' := l3c) (by decide) (by decide)).mono ?_
  rintro e w15 ⟨rfl, hh⟩
  replace H := Lib.hid hh
  clear hh
  go_wp2_with fail
  refine (ls_room H.out (c := 1) (c' := 1) (d := 2) (d' := 2) (u := 7) (u' := 7) rfl rfl rfl (by decide) (by decide) (by decide) (r := 70) (by decide)).mono ?_
  rintro e w16 ⟨rfl, hh⟩
  replace H := Lib.hid hh
  clear hh
  go_wp2_with fail
  refine (ls_push H.out (c := 1) (c' := 1) (d := 2) (d' := 2) (u := 7) (u' := 7) rfl rfl rfl (by decide) (by decide) (by decide) (n := 65) (r := 0) (L' := l3d) (by decide) (by decide)).mono ?_
  rintro e w17 ⟨rfl, hh⟩
  replace H := Lib.hid hh
  clear hh
  go_wp2_with fail
  refine (ls_line H.out (c := 2) (c' := 2) (d := 1) (d' := 1) (u := 7) (u' := 7) rfl rfl rfl (by decide) (by decide) (by decide) (lm := 10) (db := 5) (by decide)).mono ?_
  rintro e w18 ⟨rfl, hh⟩
  replace H := Lib.hid hh
  clear hh
  go_wp2_with fail
  refine (ls_tot (H.out.chg0 ((Chg.refl _ _).alloc _)) (c := 7) (c' := 7) rfl (r := 5) (by decide)).mono ?_
  rintro e w19 ⟨rfl, hh⟩
  replace H := Lib.hid hh
  clear hh
  go_wp2_with fail
  refine (ls_push H.out (c := 1) (c' := 1) (d := 2) (d' := 2) (u := 7) (u' := 7) rfl rfl rfl (by decide) (by decide) (by decide) (n := 6) (r := 11) (L' := l3d) (by decide) (by decide)).mono ?_
  rintro e w20 ⟨rfl, hh⟩
  replace H := Lib.hid hh
  clear hh
  go_wp2
  go_ret
  exact ⟨rfl, H.out.ch⟩
end Go.Proofs.Ytofnaigkfhfhoaa
