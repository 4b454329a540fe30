/-
  The plain functions of layer 49 (ops): operations, their check, their bytes. Conditions: none; no program in sight.
-/
import Derived.Test.YtcomeidcmcegfaaGreatDoorRunePlain
import Derived.Test.YtcomeidcmcegfaaGreatDoorClockPlain
import Derived.Test.YtcomeidcmcegfaaGreatDoorZD
namespace Go.Proofs.YtcomeidcmcegfaaGreatDoor
open Go.RowKit Go.Lib
set_option linter.unusedVariables false
structure OP where
 ac : Int
 ad : Int
 kd : Int
 rc : Int
 id : Int
 ti : Int
 pa : Int
 sf : Int
 st : Int
 rk : Int
 nt : List UInt8
 se : Int
 nn : Int
 tx : List UInt8
 ov : List (Int × Int)
def OP.zero : OP := ⟨0, 0, 0, 0, 0, 0, 0, 0, 0, 0, [], 0, 0, [], []⟩
def ovL (l : List (Int × Int)) : List Value := l.flatMap fun p => [.int .i64 p.1, .int .i64 p.2]
def opC (o : OP) (A : Option Addr) (c : Nat) : List Value :=
 [.int .i64 o.ac, .int .i64 o.ad, .int .i64 o.kd, .int .i64 o.rc, .int .i64 o.id, .int .i64 o.ti, .int .i64 o.pa, .int .i64 o.sf, .int .i64 o.st, .int .i64 o.rk, .string ⟨o.nt.toArray⟩,
  .int .i64 o.se, .int .i64 o.nn, .string ⟨o.tx.toArray⟩, .slice A o.ov.length c]
def opV (o : OP) (A : Option Addr) (c : Nat) : Value := .agg (opC o A c).toArray
def spanB (a b : Int) : Bool := decide (0 ≤ a ∧ a < b ∧ b ≤ 86400000)
def tierB (o : OP) : Bool := decide (0 ≤ o.ti ∧ o.ti ≤ 11 ∧ 0 ≤ o.pa ∧ o.pa ≤ 1099511627776 ∧ 0 ≤ o.rk ∧ o.rk ≤ 300)
def timeB (o : OP) : Bool := decide (o.sf = 0 ∧ o.st = 0) || spanB o.sf o.st
def addedE (o : OP) : Int := if o.id = idOf o.ac o.ad then (if tierB o = true then (if timeB o = true then textE o.nt else 12) else 2) else 1
def bareB (o : OP) : Bool := decide (o.ti = 0 ∧ o.pa = 0 ∧ o.sf = 0 ∧ o.st = 0 ∧ o.rk = 0 ∧ o.nt = [])
def namedE (o : OP) : Int := if (ofB o.id && lessB (ofC o.id) (ofD o.id) o.ac o.ad && bareB o) = true then 0 else 1
def setE (o : OP) : Int := if o.se = 0 then (if o.nn = 0 then textE o.tx else 1) else if o.se = 1 ∨ o.se = 2 then (if 0 ≤ o.nn ∧ o.nn ≤ 86400000 then (if o.tx = [] then 0 else 1) else 2) else 14
def plainE (o : OP) : Int := if o.se = 0 ∧ o.nn = 0 ∧ o.tx = [] then 0 else 1
def ovGo (a b : Int) : Nat → Int × Int → List (Int × Int) → Int
 | _, _, [] => 0
 | i, p, s :: l => if (rightB s.1 s.2 && lessB s.1 s.2 a b) = true then (if (decide (i = 0) || lessB p.1 p.2 s.1 s.2) = true then ovGo a b (i + 1) s l else 10) else 27
def overE (o : OP) : Int := if o.ov = [] then 4 else if o.ov.length ≤ 16 then ovGo o.ac o.ad 0 (0, 0) o.ov else 11
def noneE (o : OP) : Int := if o.ov = [] then 0 else 1
def orE (a b : Int) : Int := if a = 0 then b else a
def recB (o : OP) : Bool := decide (1 ≤ o.rc ∧ o.rc ≤ 1099511627776)
def checkE (o : OP) : Int :=
 if rightB o.ac o.ad = true then
  (if 0 ≤ o.kd ∧ o.kd ≤ 2 then
   (if recB o = true then
    (if o.kd = 0 then orE (addedE o) (orE (plainE o) (noneE o)) else orE (namedE o) (orE (if o.kd = 1 then setE o else plainE o) (overE o)))
   else 2) else 14) else 27
def ints10 (o : OP) : List Int := [o.ac, o.ad, o.kd, o.rc, o.id, o.ti, o.pa, o.sf, o.st, o.rk]
def ovEnc (l : List (Int × Int)) : List UInt8 := l.flatMap fun p => enc p.1 ++ enc p.2
def opB (o : OP) : List UInt8 := (ints10 o).flatMap enc ++ (encT o.nt ++ (enc o.se ++ (enc o.nn ++ (encT o.tx ++ (enc o.ov.length ++ ovEnc o.ov)))))
def bytesR (o : OP) : List UInt8 := if checkE o = 0 then opB o else []
end Go.Proofs.YtcomeidcmcegfaaGreatDoor
