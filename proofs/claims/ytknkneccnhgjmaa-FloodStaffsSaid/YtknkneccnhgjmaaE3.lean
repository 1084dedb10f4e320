/- The chapter's examples, each answer by its contract. -/
import Derived.Test.YtknkneccnhgjmaaE2
namespace Go.Proofs.Ytknkneccnhgjmaa
open Go.RowKit Go.Shelf

def exJoin : List Int := [0, 0, 1, 3, 6]
def exLead : List Int := [5, 6, 7, 8, 8]
def exFive : List Int := [0, 5, 5, 7, 8]
def exOpen : List Int := [0, 4, 9, 9, 20]
def exClosed : List Int := [0, 4, 8, 9, 13]
def exServ : List Int := [0, 2, 5, 9, 14]
def exLeft : List Int := [0, 0, 0, 2, 6]
def exStaffs : List Sv := [⟨2, 3, 5⟩, ⟨3, 1, 4⟩]
def exLo : List Int := [0, 0, 3, 3, 3]
def exHi : List Int := [4, 4, 4, 4, 1073741824]

theorem Join_ex (A1 A2 : Option Addr) (c1 c2 : Nat) (w : World) (r1 : Rd w w.heap.size A1 exLimit) (r2 : Rd w w.heap.size A2 exService) :
    Calls Try.prog 22 #[.agg #[.slice A1 exLimit.length c1], .agg #[.slice A2 exService.length c2]] w fun e w' => RCE w exJoin 0 e w' := by
  have h := Join_any A1 A2 c1 c2 exLimit exService w r1 r2 (by decide) (by decide)
  rwa [show pick (ok2 exLimit exService && fitB (joinL exLimit exService)) (joinL exLimit exService) = exJoin by decide, show (if ok2 exLimit exService then rngB (joinL exLimit exService) else 1) = 0 by decide] at h
theorem Lead_ex (A1 A2 : Option Addr) (c1 c2 : Nat) (w : World) (r1 : Rd w w.heap.size A1 exLimit) (r2 : Rd w w.heap.size A2 exService) :
    Calls Try.prog 21 #[.agg #[.slice A1 exLimit.length c1], .agg #[.slice A2 exService.length c2]] w fun e w' => RCE w exLead 0 e w' := by
  have h := Lead_any A1 A2 c1 c2 exLimit exService w r1 r2 (by decide) (by decide)
  rwa [show pick (ok2 exLimit exService) (leadL exLimit exService) = exLead by decide, show errB (ok2 exLimit exService) = 0 by decide] at h
theorem Obeys_ex (A1 A2 : Option Addr) (c1 c2 : Nat) (w : World) (r1 : Rd w w.heap.size A1 exFive) (r2 : Rd w w.heap.size A2 exLimit) :
    Calls Try.prog 57 #[.agg #[.slice A1 exFive.length c1], .agg #[.slice A2 exLimit.length c2]] w fun e w' => e = .returned (.tuple #[.agg #[.int .i64 0, .int .i64 1], .bool false, .int .i64 0]) ∧ Below w.heap.size w w' := by
  have h := Obeys_any A1 A2 c1 c2 exFive exLimit w r1 r2 (by decide) (by decide)
  rwa [show pickI (ok2 exFive exLimit) (brkLo (brk exFive exLimit)) = 0 by decide, show pickI (ok2 exFive exLimit) (brkHi (brk exFive exLimit)) = 1 by decide, show (ok2 exFive exLimit && obeysB exFive exLimit) = false by decide, show errB (ok2 exFive exLimit) = 0 by decide] at h
theorem Close_ex (A1 : Option Addr) (c1 : Nat) (w : World) (r1 : Rd w w.heap.size A1 exOpen) :
    Calls Try.prog 59 #[.agg #[.slice A1 exOpen.length c1]] w fun e w' => RCE w exClosed 0 e w' := by
  have h := Close_any A1 c1 exOpen w r1 (by decide)
  rwa [show pick (validB exOpen) (closedL exOpen) = exClosed by decide, show errB (validB exOpen) = 0 by decide] at h
theorem Least_ex (A1 A2 : Option Addr) (c1 c2 : Nat) (w : World) (r1 : Rd w w.heap.size A1 exCourse) (r2 : Rd w w.heap.size A2 exService) :
    Calls Try.prog 38 #[.agg #[.slice A1 exCourse.length c1], .agg #[.slice A2 exService.length c2]] w fun e w' => RCE w exJoin 0 e w' := by
  have h := Least_any A1 A2 c1 c2 exCourse exService w r1 r2 (by decide) (by decide)
  rwa [show pick (ok2 exCourse exService) (leastL exCourse exService) = exJoin by decide, show errB (ok2 exCourse exService) = 0 by decide] at h
theorem Stored_ex (A1 A2 : Option Addr) (c1 c2 : Nat) (w : World) (r1 : Rd w w.heap.size A1 exCourse) (r2 : Rd w w.heap.size A2 exJoin) :
    Calls Try.prog 43 #[.agg #[.slice A1 exCourse.length c1], .agg #[.slice A2 exJoin.length c2]] w fun e w' => e = .returned (.tuple #[.int .i64 4, .int .i64 2, .int .i64 0]) ∧ Below w.heap.size w w' := by
  have h := Stored_any A1 A2 c1 c2 exCourse exJoin w r1 r2 (by decide) (by decide)
  rwa [show (if flowE exCourse exJoin = 0 then liesAt exCourse exJoin (mostAt exCourse exJoin) else 0) = 4 by decide, show (if flowE exCourse exJoin = 0 then ((mostAt exCourse exJoin : Nat) : Int) else 0) = 2 by decide, show flowE exCourse exJoin = 0 by decide] at h
theorem Waited_ex (A1 A2 : Option Addr) (c1 c2 : Nat) (w : World) (r1 : Rd w w.heap.size A1 exCourse) (r2 : Rd w w.heap.size A2 exJoin) :
    Calls Try.prog 45 #[.agg #[.slice A1 exCourse.length c1], .agg #[.slice A2 exJoin.length c2]] w fun e w' => e = .returned (.tuple #[.int .i64 2, .int .i64 0]) ∧ Below w.heap.size w w' := by
  have h := Waited_any A1 A2 c1 c2 exCourse exJoin w r1 r2 (by decide) (by decide)
  rwa [show (if flowE exCourse exJoin = 0 then waitI exCourse exJoin else 0) = 2 by decide, show flowE exCourse exJoin = 0 by decide] at h
theorem Backlog_ex (A1 A2 : Option Addr) (c1 c2 : Nat) (w : World) (r1 : Rd w w.heap.size A1 exLimit) (r2 : Rd w w.heap.size A2 exService) :
    Calls Try.prog 29 #[.agg #[.slice A1 exLimit.length c1], .agg #[.slice A2 exService.length c2]] w fun e w' => RSurge w 5 exLimit exJoin 2 0 e w' := by
  have h := Backlog_any A1 A2 c1 c2 exLimit exService w r1 r2 (by decide) (by decide)
  rwa [show pickI (ok2 exLimit exService) (backTop exLimit exService).2 = 5 by decide, show pick (ok2 exLimit exService) (closedL exLimit) = exLimit by decide, show pick (ok2 exLimit exService) (backOut exLimit exService) = exJoin by decide, show pickI (ok2 exLimit exService) ((backTop exLimit exService).1 : Nat) = 2 by decide, show errB (ok2 exLimit exService) = 0 by decide] at h
theorem Delay_ex (A1 A2 : Option Addr) (c1 c2 : Nat) (w : World) (r1 : Rd w w.heap.size A1 exLimit) (r2 : Rd w w.heap.size A2 exService) :
    Calls Try.prog 30 #[.agg #[.slice A1 exLimit.length c1], .agg #[.slice A2 exService.length c2]] w fun e w' => e = .returned (.tuple #[.int .i64 3, .int .i64 0]) ∧ Below w.heap.size w w' := by
  have h := Delay_any A1 A2 c1 c2 exLimit exService w r1 r2 (by decide) (by decide)
  rwa [show (if ok2 exLimit exService then delayI exLimit exService else 0) = 3 by decide, show errB (ok2 exLimit exService) = 0 by decide] at h
theorem Left_ex (A1 A2 : Option Addr) (c1 c2 : Nat) (w : World) (r1 : Rd w w.heap.size A1 exServ) (r2 : Rd w w.heap.size A2 exLimit) :
    Calls Try.prog 31 #[.agg #[.slice A1 exServ.length c1], .agg #[.slice A2 exLimit.length c2]] w fun e w' => RCE w exLeft 0 e w' := by
  have h := Left_any A1 A2 c1 c2 exServ exLimit w r1 r2 (by decide) (by decide)
  rwa [show pick (ok2 exServ exLimit) (leftL exServ exLimit) = exLeft by decide, show errB (ok2 exServ exLimit) = 0 by decide] at h
theorem Between_ex (A : Option Addr) (c : Nat) (w : World) (h : RdS w w.heap.size A exStaffs) :
    Calls Try.prog 17 #[.slice A exStaffs.length c, .int .i64 4] w fun e w' => RTwo w exLo exHi 0 e w' := by
  have h := Between_any A c exStaffs 4 w h (by decide)
  rwa [show pick (decide (betE exStaffs 4 = 0)) (loL exStaffs ((4 : Int).toNat + 1)) = exLo by decide, show pick (decide (betE exStaffs 4 = 0)) (hiL exStaffs ((4 : Int).toNat + 1)) = exHi by decide, show betE exStaffs 4 = 0 by decide] at h
theorem checkB_ex (A1 A2 A3 A4 : Option Addr) (c1 c2 c3 c4 : Nat) (w : World) (r1 : Rd w w.heap.size A1 exLimit) (r2 : Rd w w.heap.size A2 exService) (r3 : Rd w w.heap.size A3 exLimit) (r4 : Rd w w.heap.size A4 exJoin) :
    Calls Try.prog 34 #[.agg #[.slice A1 exLimit.length c1], .agg #[.slice A2 exService.length c2], .int .i64 5, .agg #[.slice A3 exLimit.length c3, .slice A4 exJoin.length c4, .int .i64 2]] w fun e w' => e = .returned (.int .i64 0) ∧ Below w.heap.size w w' := by
  have h := rcheckB_any A1 A2 A3 A4 c1 c2 c3 c4 exLimit exService exLimit exJoin 5 2 w r1 r2 r3 r4 (by decide) (by decide) (by decide) (by decide)
  rwa [show cbE exLimit exService 5 exLimit exJoin 2 = 0 by decide] at h
theorem Same_ex (A1 A2 : Option Addr) (c1 c2 : Nat) (xs : List Int) (w : World) (r1 : Rd w w.heap.size A1 xs) (r2 : Rd w w.heap.size A2 xs) (hm : xs.length ≤ 1000) :
    Calls Try.prog 19 #[.agg #[.slice A1 xs.length c1], .agg #[.slice A2 xs.length c2]] w fun e w' => e = .returned (.bool true) ∧ Below w.heap.size w w' := by
  have h := Same_any A1 A2 c1 c2 xs xs w r1 r2 hm hm
  rwa [show decide (xs = xs) = true from decide_eq_true rfl] at h
end Go.Proofs.Ytknkneccnhgjmaa
