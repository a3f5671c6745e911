/- The examples of the chapter on retouching, plainly. -/
import Derived.Test.YtieacbccadbdbaaGreatDoorLRetP
namespace Go.Proofs.YtieacbccadbdbaaGreatDoor
set_option linter.unusedVariables false

def gr (c : Int) : Px := (c, c, c, 65535)
def rexB : Bru := ⟨160, 65535, 65535, 65535, 65535, 100, 0, 0, 0, 0, 0, 0, 0, 0, [], false⟩
def rexL : List Smp := [⟨8, 8, 65535, 0, 0⟩]
def rexI : List Px := [gr 100, gr 7]
/-- The image that is healed: pixel k; with the middle of the source; with the middle of the target. -/
def rexA (k : Nat) : Px := gr (100 - ((k % 6 / 3 : Nat) : Int) * 50)
def rexF (k : Nat) : Px := if k = 10 then gr 60 else rexA k
def rexG (k : Nat) : Px := if k = 7 then gr 110 else rexF k
def rexH : List Px := (List.range 18).map rexF
theorem rex_p0 : prepE 2 1 rexI rexB rexL 0 0 [] = 0 := by decide +kernel
theorem rex_p1 : prepE 2 1 rexI rexB rexL 2 1 [0, 65535] = 0 := by decide +kernel
theorem rex_c1 : clones rexB (dabs rexB rexL).1 2 1 0 [] rexI 1 0 = [gr 7, gr 7] := by decide +kernel
theorem rex_c2 : clones rexB (dabs rexB rexL).1 2 1 0 [] rexI (-1) 0 = [gr 100, gr 100] := by decide +kernel
theorem rex_s : smuds rexB (dabs rexB rexL).1 2 1 2 [0, 65535] rexI = [gr 100, gr 100] := by decide +kernel
theorem rex_i : ichk 6 3 rexH = 0 := by decide +kernel
theorem rex_m : mchk 0 0 [] = 0 := by decide +kernel
theorem rex_h : heals 6 3 3 0 0 3 0 0 [] rexH = (List.range 18).map rexG := by decide +kernel
theorem rex_hr : hRect 6 3 0 0 3 3 := by unfold hRect; decide +kernel
theorem rex_ho : hOff 6 3 0 0 3 3 3 0 := by unfold hOff; decide +kernel
theorem rex_hs : hSize 6 3 3 3 0 0 := by unfold hSize; decide +kernel
end Go.Proofs.YtieacbccadbdbaaGreatDoor

