/-
  The law's own example (package countinghouselaw09).
-/
import Derived.Test.YtofnaigkfhfhoaaLStep
import Derived.Test.YtofnaigkfhfhoaaLives3
import Derived.Test.YtofnaigkfhfhoaaPay
namespace Go.Proofs.Ytofnaigkfhfhoaa
open Go.RowKit Go.Maps Pl
attribute [local go_sem ↓] Go.wp_at_zero Go.wp_at_succ

theorem ls_most {a w : World} {lb mb : Nat} {S : Nat → Bool} {L : List Ln} (h : LS a w lb mb S L) {f t u : Nat} {f' t' u' : Int} (hf : f' = f) (ht : t' = t) (hu : u' = u) (hu1 : u < 256) {r : Int} (hE : mostF (capsL S L u) f t = r) :
    Calls Try.prog 17 #[.pointer (some ⟨lb, 0, none⟩), .int .u8 f', .int .u8 t', .int .u8 u'] w fun e w' => e = .returned (.int .i64 r) ∧ LS a w' lb mb S L := by
  subst hf ht hu hE
  exact (pmost h.led f t hu1).mono fun e w' ⟨he, hc⟩ => ⟨he, h.chg0 hc⟩
theorem ls_pay {a w : World} {lb mb : Nat} {S : Nat → Bool} {L : List Ln} (h : LS a w lb mb S L) {f t u : Nat} {f' t' u' : Int} (hf : f' = f) (ht : t' = t) (hu : u' = u) (hf1 : f < 256) (ht1 : t < 256) (hu1 : u < 256) {n : Int} (hn : n ≤ 9223372036854775807) {r k : Int} {L' : List Ln} (hE : payE S L f t u n = r ∧ payN S L f t u n = k ∧ payL S L f t u n = L') :
    Calls Try.prog 16 #[.pointer (some ⟨lb, 0, none⟩), .int .u8 f', .int .u8 t', .int .u8 u', .int .i64 n] w fun e w' => e = .returned (.tuple #[.int .i64 k, .int .i64 r]) ∧ LS a w' lb mb S L' := by
  obtain ⟨rfl, rfl, rfl⟩ := hE
  subst hf ht hu
  exact (lpay h.led hf1 ht1 hu1 hn).mono fun e w' ⟨he, hI, hc⟩ => ⟨he, h.step hI hc (by simp)⟩

def l9a : List Ln := [⟨2, 1, 1, 10, 0⟩]
def l9b : List Ln := [⟨2, 1, 1, 10, 0⟩, ⟨3, 2, 1, 4, 0⟩]
def l9c : List Ln := [⟨2, 1, 1, 10, 4⟩, ⟨3, 2, 1, 4, 4⟩]
theorem l9_m : mostF (capsL s3c l9b 1) 1 3 = 4 := by unfold mostF; decide +kernel
theorem l9_a : payE s3c l9b 1 3 1 5 = 11 ∧ payN s3c l9b 1 3 1 5 = 0 ∧ payL s3c l9b 1 3 1 5 = l9b := by decide +kernel
theorem l9_b : payE s3c l9b 1 3 1 4 = 0 ∧ payN s3c l9b 1 3 1 4 = 2 ∧ payL s3c l9b 1 3 1 4 = l9c := by decide +kernel
theorem l9_c : payE s3c l9c 3 1 1 4 = 0 ∧ payN s3c l9c 3 1 1 4 = 2 ∧ payL s3c l9c 3 1 1 4 = l9b := by decide +kernel
theorem l9_d : payE s3c l9b 1 1 1 4 = 1 ∧ payN s3c l9b 1 1 1 4 = 0 ∧ payL s3c l9b 1 1 1 4 = l9b := by decide +kernel
theorem l9_e : payE s3c l9b 1 9 1 4 = 7 ∧ payN s3c l9b 1 9 1 4 = 0 ∧ payL s3c l9b 1 9 1 4 = l9b := by decide +kernel

set_option maxRecDepth 100000 in
set_option maxHeartbeats 4000000 in
theorem lives9 (w : World) : Calls Try.prog 18 #[] w fun e w' => e = .returned (.bool true) ∧ Chg [] w w' := by
  go_enter Try.func18, Try.ntmps18
  go_wp2_with fail
  refine (ls_new w).mono ?_
  rintro e w1 ⟨lb, mb, rfl, hh⟩
  have H := Lib.hid hh
  clear hh
  go_wp2_with fail
  refine (ls_open H.out (p := 1) (q := 1) rfl (by decide) (r := 0) (S' := s3a) (by decide) rfl).mono ?_
  rintro e w2 ⟨rfl, hh⟩
  replace H := Lib.hid hh
  clear hh
  go_wp2_with fail
  refine (ls_open H.out (p := 2) (q := 2) rfl (by decide) (r := 0) (S' := s3b) (by decide) rfl).mono ?_
  rintro e w3 ⟨rfl, hh⟩
  replace H := Lib.hid hh
  clear hh
  go_wp2_with fail
  refine (ls_open H.out (p := 3) (q := 3) rfl (by decide) (r := 0) (S' := s3c) (by decide) rfl).mono ?_
  rintro e w4 ⟨rfl, hh⟩
  replace H := Lib.hid hh
  clear hh
  go_wp2_with fail
  refine (ls_trust H.out (c := 2) (c' := 2) (d := 1) (d' := 1) (u := 1) (u' := 1) rfl rfl rfl (n := 10) (r := 0) (L' := l9a) (by decide) (by decide)).mono ?_
  rintro e w6 ⟨rfl, hh⟩
  replace H := Lib.hid hh
  clear hh
  go_wp2_with fail
  refine (ls_trust H.out (c := 3) (c' := 3) (d := 2) (d' := 2) (u := 1) (u' := 1) rfl rfl rfl (n := 4) (r := 0) (L' := l9b) (by decide) (by decide)).mono ?_
  rintro e w6 ⟨rfl, hh⟩
  replace H := Lib.hid hh
  clear hh
  go_wp2_with fail
  refine (ls_most H.out (f := 1) (f' := 1) (t := 3) (t' := 3) (u := 1) (u' := 1) rfl rfl rfl (by decide) l9_m).mono ?_
  rintro e w7 ⟨rfl, hh⟩
  replace H := Lib.hid hh
  clear hh
  go_wp2_with fail
  refine (ls_pay H.out (f := 1) (f' := 1) (t := 3) (t' := 3) (u := 1) (u' := 1) rfl rfl rfl (by decide) (by decide) (by decide) (by decide) l9_a).mono ?_
  rintro e w8 ⟨rfl, hh⟩
  replace H := Lib.hid hh
  clear hh
  go_wp2_with fail
  refine (ls_pay H.out (f := 1) (f' := 1) (t := 3) (t' := 3) (u := 1) (u' := 1) rfl rfl rfl (by decide) (by decide) (by decide) (by decide) l9_b).mono ?_
  rintro e w9 ⟨rfl, hh⟩
  replace H := Lib.hid hh
  clear hh
  go_wp2_with fail
  refine (ls_pay H.out (f := 3) (f' := 3) (t := 1) (t' := 1) (u := 1) (u' := 1) rfl rfl rfl (by decide) (by decide) (by decide) (by decide) l9_c).mono ?_
  rintro e w10 ⟨rfl, hh⟩
  replace H := Lib.hid hh
  clear hh
  go_wp2_with fail
  refine (ls_pay H.out (f := 1) (f' := 1) (t := 1) (t' := 1) (u := 1) (u' := 1) rfl rfl rfl (by decide) (by decide) (by decide) (by decide) l9_d).mono ?_
  rintro e w11 ⟨rfl, hh⟩
  replace H := Lib.hid hh
  clear hh
  go_wp2_with fail
  refine (ls_pay H.out (f := 1) (f' := 1) (t := 9) (t' := 9) (u := 1) (u' := 1) rfl rfl rfl (by decide) (by decide) (by decide) (by decide) l9_e).mono ?_
  rintro e w12 ⟨rfl, hh⟩
  replace H := Lib.hid hh
  clear hh
  go_wp2
  go_ret
  exact ⟨rfl, H.out.ch⟩
end Go.Proofs.Ytofnaigkfhfhoaa
