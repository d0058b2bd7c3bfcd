/- Several texts in one: FCheckF, FCost, Nil, Fill. -/
import Derived.Test.YthlehkjcfhnplaaGreatDoorGs21
import Derived.Test.YthlehkjcfhnplaaGreatDoorGs23
import Derived.Test.YthlehkjcfhnplaaGreatDoorGsHd
set_option maxRecDepth 100000
set_option maxHeartbeats 8000000
/- Check of package frac. -/
namespace Go.Proofs.YthlehkjcfhnplaaGreatDoor
open Go.RowKit

/- What lowest terms may cost. -/

def costLow (a b : Nat) : Int := ((min a 1048576 : Nat) : Int) * ((min b 1048576 : Nat) : Int) / 16 * 1024
/- The other lists of a Book, of which there is none. (Written by wip/book/gennil.py.) -/

theorem fill_Number (b m : Nat) (lims : Value) (w : World) (h : Blk w b tBook (bookC m lims)) :
    Calls Tryz.prog 57 #[.pointer (some ⟨b, 0, none⟩)] w fun e w' => e = .returned (.tuple #[]) ∧ w = w' := by
  have c := h.cell 2
  simp at c
  clear h
  go_enter Tryz.func57, Tryz.ntmps57
  go_wp2_with fail
  go_loop [2] (fun v => v = .int .i64 0) (fun _ => 0)
  case atStart => exact rfl
  case round =>
    subst hrel
    go_wp2_with fail
    exact bodyPost_end (v := .tuple #[]) (by simp [results, Tryz.results57, go_sem]) rfl ⟨rfl, rfl⟩

theorem grow_Number (b m : Nat) (lims : Value) (w : World) (h : Blk w b tBook (bookC m lims)) :
    Calls Tryz.prog 73 #[.pointer (some ⟨b, 0, none⟩)] w fun e w' => e = .returned (.tuple #[]) ∧ w = w' := by
  have c := h.cell 2
  simp at c
  clear h
  go_enter Tryz.func73, Tryz.ntmps73
  go_wp2_with fail
  go_loop [2] (fun v => v = .int .i64 0) (fun _ => 0)
  case atStart => exact rfl
  case round =>
    subst hrel
    go_wp2_with fail
    exact bodyPost_end (v := .tuple #[]) (by simp [results, Tryz.results73, go_sem]) rfl ⟨rfl, rfl⟩

theorem look_Number (b m : Nat) (lims : Value) (w : World) (h : Blk w b tBook (bookC m lims)) :
    Calls Tryz.prog 89 #[.pointer (some ⟨b, 0, none⟩)] w fun e w' => e = .returned (.bool true) ∧ w = w' := by
  have c := h.cell 2
  simp at c
  clear h
  go_enter Tryz.func89, Tryz.ntmps89
  go_wp2_with fail
  go_loop [3] (fun v => v = .int .i64 0) (fun _ => 0)
  case atStart => exact rfl
  case round =>
    subst hrel
    go_wp2_with fail
    go_ret
    exact ⟨rfl, rfl⟩

theorem fill_Float (b m : Nat) (lims : Value) (w : World) (h : Blk w b tBook (bookC m lims)) :
    Calls Tryz.prog 58 #[.pointer (some ⟨b, 0, none⟩)] w fun e w' => e = .returned (.tuple #[]) ∧ w = w' := by
  have c := h.cell 3
  simp at c
  clear h
  go_enter Tryz.func58, Tryz.ntmps58
  go_wp2_with fail
  go_loop [2] (fun v => v = .int .i64 0) (fun _ => 0)
  case atStart => exact rfl
  case round =>
    subst hrel
    go_wp2_with fail
    exact bodyPost_end (v := .tuple #[]) (by simp [results, Tryz.results58, go_sem]) rfl ⟨rfl, rfl⟩

theorem grow_Float (b m : Nat) (lims : Value) (w : World) (h : Blk w b tBook (bookC m lims)) :
    Calls Tryz.prog 74 #[.pointer (some ⟨b, 0, none⟩)] w fun e w' => e = .returned (.tuple #[]) ∧ w = w' := by
  have c := h.cell 3
  simp at c
  clear h
  go_enter Tryz.func74, Tryz.ntmps74
  go_wp2_with fail
  go_loop [2] (fun v => v = .int .i64 0) (fun _ => 0)
  case atStart => exact rfl
  case round =>
    subst hrel
    go_wp2_with fail
    exact bodyPost_end (v := .tuple #[]) (by simp [results, Tryz.results74, go_sem]) rfl ⟨rfl, rfl⟩

theorem look_Float (b m : Nat) (lims : Value) (w : World) (h : Blk w b tBook (bookC m lims)) :
    Calls Tryz.prog 90 #[.pointer (some ⟨b, 0, none⟩)] w fun e w' => e = .returned (.bool true) ∧ w = w' := by
  have c := h.cell 3
  simp at c
  clear h
  go_enter Tryz.func90, Tryz.ntmps90
  go_wp2_with fail
  go_loop [3] (fun v => v = .int .i64 0) (fun _ => 0)
  case atStart => exact rfl
  case round =>
    subst hrel
    go_wp2_with fail
    go_ret
    exact ⟨rfl, rfl⟩

theorem fill_Complex (b m : Nat) (lims : Value) (w : World) (h : Blk w b tBook (bookC m lims)) :
    Calls Tryz.prog 59 #[.pointer (some ⟨b, 0, none⟩)] w fun e w' => e = .returned (.tuple #[]) ∧ w = w' := by
  have c := h.cell 4
  simp at c
  clear h
  go_enter Tryz.func59, Tryz.ntmps59
  go_wp2_with fail
  go_loop [2] (fun v => v = .int .i64 0) (fun _ => 0)
  case atStart => exact rfl
  case round =>
    subst hrel
    go_wp2_with fail
    exact bodyPost_end (v := .tuple #[]) (by simp [results, Tryz.results59, go_sem]) rfl ⟨rfl, rfl⟩

theorem grow_Complex (b m : Nat) (lims : Value) (w : World) (h : Blk w b tBook (bookC m lims)) :
    Calls Tryz.prog 75 #[.pointer (some ⟨b, 0, none⟩)] w fun e w' => e = .returned (.tuple #[]) ∧ w = w' := by
  have c := h.cell 4
  simp at c
  clear h
  go_enter Tryz.func75, Tryz.ntmps75
  go_wp2_with fail
  go_loop [2] (fun v => v = .int .i64 0) (fun _ => 0)
  case atStart => exact rfl
  case round =>
    subst hrel
    go_wp2_with fail
    exact bodyPost_end (v := .tuple #[]) (by simp [results, Tryz.results75, go_sem]) rfl ⟨rfl, rfl⟩

theorem look_Complex (b m : Nat) (lims : Value) (w : World) (h : Blk w b tBook (bookC m lims)) :
    Calls Tryz.prog 91 #[.pointer (some ⟨b, 0, none⟩)] w fun e w' => e = .returned (.bool true) ∧ w = w' := by
  have c := h.cell 4
  simp at c
  clear h
  go_enter Tryz.func91, Tryz.ntmps91
  go_wp2_with fail
  go_loop [3] (fun v => v = .int .i64 0) (fun _ => 0)
  case atStart => exact rfl
  case round =>
    subst hrel
    go_wp2_with fail
    go_ret
    exact ⟨rfl, rfl⟩

theorem fill_Text (b m : Nat) (lims : Value) (w : World) (h : Blk w b tBook (bookC m lims)) :
    Calls Tryz.prog 60 #[.pointer (some ⟨b, 0, none⟩)] w fun e w' => e = .returned (.tuple #[]) ∧ w = w' := by
  have c := h.cell 5
  simp at c
  clear h
  go_enter Tryz.func60, Tryz.ntmps60
  go_wp2_with fail
  go_loop [2] (fun v => v = .int .i64 0) (fun _ => 0)
  case atStart => exact rfl
  case round =>
    subst hrel
    go_wp2_with fail
    exact bodyPost_end (v := .tuple #[]) (by simp [results, Tryz.results60, go_sem]) rfl ⟨rfl, rfl⟩

theorem grow_Text (b m : Nat) (lims : Value) (w : World) (h : Blk w b tBook (bookC m lims)) :
    Calls Tryz.prog 76 #[.pointer (some ⟨b, 0, none⟩)] w fun e w' => e = .returned (.tuple #[]) ∧ w = w' := by
  have c := h.cell 5
  simp at c
  clear h
  go_enter Tryz.func76, Tryz.ntmps76
  go_wp2_with fail
  go_loop [2] (fun v => v = .int .i64 0) (fun _ => 0)
  case atStart => exact rfl
  case round =>
    subst hrel
    go_wp2_with fail
    exact bodyPost_end (v := .tuple #[]) (by simp [results, Tryz.results76, go_sem]) rfl ⟨rfl, rfl⟩

theorem look_Text (b m : Nat) (lims : Value) (w : World) (h : Blk w b tBook (bookC m lims)) :
    Calls Tryz.prog 92 #[.pointer (some ⟨b, 0, none⟩)] w fun e w' => e = .returned (.bool true) ∧ w = w' := by
  have c := h.cell 5
  simp at c
  clear h
  go_enter Tryz.func92, Tryz.ntmps92
  go_wp2_with fail
  go_loop [3] (fun v => v = .int .i64 0) (fun _ => 0)
  case atStart => exact rfl
  case round =>
    subst hrel
    go_wp2_with fail
    go_ret
    exact ⟨rfl, rfl⟩

theorem fill_Frac (b m : Nat) (lims : Value) (w : World) (h : Blk w b tBook (bookC m lims)) :
    Calls Tryz.prog 61 #[.pointer (some ⟨b, 0, none⟩)] w fun e w' => e = .returned (.tuple #[]) ∧ w = w' := by
  have c := h.cell 6
  simp at c
  clear h
  go_enter Tryz.func61, Tryz.ntmps61
  go_wp2_with fail
  go_loop [2] (fun v => v = .int .i64 0) (fun _ => 0)
  case atStart => exact rfl
  case round =>
    subst hrel
    go_wp2_with fail
    exact bodyPost_end (v := .tuple #[]) (by simp [results, Tryz.results61, go_sem]) rfl ⟨rfl, rfl⟩

theorem grow_Frac (b m : Nat) (lims : Value) (w : World) (h : Blk w b tBook (bookC m lims)) :
    Calls Tryz.prog 77 #[.pointer (some ⟨b, 0, none⟩)] w fun e w' => e = .returned (.tuple #[]) ∧ w = w' := by
  have c := h.cell 6
  simp at c
  clear h
  go_enter Tryz.func77, Tryz.ntmps77
  go_wp2_with fail
  go_loop [2] (fun v => v = .int .i64 0) (fun _ => 0)
  case atStart => exact rfl
  case round =>
    subst hrel
    go_wp2_with fail
    exact bodyPost_end (v := .tuple #[]) (by simp [results, Tryz.results77, go_sem]) rfl ⟨rfl, rfl⟩

theorem look_Frac (b m : Nat) (lims : Value) (w : World) (h : Blk w b tBook (bookC m lims)) :
    Calls Tryz.prog 93 #[.pointer (some ⟨b, 0, none⟩)] w fun e w' => e = .returned (.bool true) ∧ w = w' := by
  have c := h.cell 6
  simp at c
  clear h
  go_enter Tryz.func93, Tryz.ntmps93
  go_wp2_with fail
  go_loop [3] (fun v => v = .int .i64 0) (fun _ => 0)
  case atStart => exact rfl
  case round =>
    subst hrel
    go_wp2_with fail
    go_ret
    exact ⟨rfl, rfl⟩

theorem fill_Gauss (b m : Nat) (lims : Value) (w : World) (h : Blk w b tBook (bookC m lims)) :
    Calls Tryz.prog 62 #[.pointer (some ⟨b, 0, none⟩)] w fun e w' => e = .returned (.tuple #[]) ∧ w = w' := by
  have c := h.cell 7
  simp at c
  clear h
  go_enter Tryz.func62, Tryz.ntmps62
  go_wp2_with fail
  go_loop [2] (fun v => v = .int .i64 0) (fun _ => 0)
  case atStart => exact rfl
  case round =>
    subst hrel
    go_wp2_with fail
    exact bodyPost_end (v := .tuple #[]) (by simp [results, Tryz.results62, go_sem]) rfl ⟨rfl, rfl⟩

theorem grow_Gauss (b m : Nat) (lims : Value) (w : World) (h : Blk w b tBook (bookC m lims)) :
    Calls Tryz.prog 78 #[.pointer (some ⟨b, 0, none⟩)] w fun e w' => e = .returned (.tuple #[]) ∧ w = w' := by
  have c := h.cell 7
  simp at c
  clear h
  go_enter Tryz.func78, Tryz.ntmps78
  go_wp2_with fail
  go_loop [2] (fun v => v = .int .i64 0) (fun _ => 0)
  case atStart => exact rfl
  case round =>
    subst hrel
    go_wp2_with fail
    exact bodyPost_end (v := .tuple #[]) (by simp [results, Tryz.results78, go_sem]) rfl ⟨rfl, rfl⟩

theorem look_Gauss (b m : Nat) (lims : Value) (w : World) (h : Blk w b tBook (bookC m lims)) :
    Calls Tryz.prog 94 #[.pointer (some ⟨b, 0, none⟩)] w fun e w' => e = .returned (.bool true) ∧ w = w' := by
  have c := h.cell 7
  simp at c
  clear h
  go_enter Tryz.func94, Tryz.ntmps94
  go_wp2_with fail
  go_loop [3] (fun v => v = .int .i64 0) (fun _ => 0)
  case atStart => exact rfl
  case round =>
    subst hrel
    go_wp2_with fail
    go_ret
    exact ⟨rfl, rfl⟩

theorem fill_Ray (b m : Nat) (lims : Value) (w : World) (h : Blk w b tBook (bookC m lims)) :
    Calls Tryz.prog 63 #[.pointer (some ⟨b, 0, none⟩)] w fun e w' => e = .returned (.tuple #[]) ∧ w = w' := by
  have c := h.cell 8
  simp at c
  clear h
  go_enter Tryz.func63, Tryz.ntmps63
  go_wp2_with fail
  go_loop [2] (fun v => v = .int .i64 0) (fun _ => 0)
  case atStart => exact rfl
  case round =>
    subst hrel
    go_wp2_with fail
    exact bodyPost_end (v := .tuple #[]) (by simp [results, Tryz.results63, go_sem]) rfl ⟨rfl, rfl⟩

theorem grow_Ray (b m : Nat) (lims : Value) (w : World) (h : Blk w b tBook (bookC m lims)) :
    Calls Tryz.prog 79 #[.pointer (some ⟨b, 0, none⟩)] w fun e w' => e = .returned (.tuple #[]) ∧ w = w' := by
  have c := h.cell 8
  simp at c
  clear h
  go_enter Tryz.func79, Tryz.ntmps79
  go_wp2_with fail
  go_loop [2] (fun v => v = .int .i64 0) (fun _ => 0)
  case atStart => exact rfl
  case round =>
    subst hrel
    go_wp2_with fail
    exact bodyPost_end (v := .tuple #[]) (by simp [results, Tryz.results79, go_sem]) rfl ⟨rfl, rfl⟩

theorem look_Ray (b m : Nat) (lims : Value) (w : World) (h : Blk w b tBook (bookC m lims)) :
    Calls Tryz.prog 95 #[.pointer (some ⟨b, 0, none⟩)] w fun e w' => e = .returned (.bool true) ∧ w = w' := by
  have c := h.cell 8
  simp at c
  clear h
  go_enter Tryz.func95, Tryz.ntmps95
  go_wp2_with fail
  go_loop [3] (fun v => v = .int .i64 0) (fun _ => 0)
  case atStart => exact rfl
  case round =>
    subst hrel
    go_wp2_with fail
    go_ret
    exact ⟨rfl, rfl⟩

theorem fill_Element (b m : Nat) (lims : Value) (w : World) (h : Blk w b tBook (bookC m lims)) :
    Calls Tryz.prog 64 #[.pointer (some ⟨b, 0, none⟩)] w fun e w' => e = .returned (.tuple #[]) ∧ w = w' := by
  have c := h.cell 9
  simp at c
  clear h
  go_enter Tryz.func64, Tryz.ntmps64
  go_wp2_with fail
  go_loop [2] (fun v => v = .int .i64 0) (fun _ => 0)
  case atStart => exact rfl
  case round =>
    subst hrel
    go_wp2_with fail
    exact bodyPost_end (v := .tuple #[]) (by simp [results, Tryz.results64, go_sem]) rfl ⟨rfl, rfl⟩

theorem grow_Element (b m : Nat) (lims : Value) (w : World) (h : Blk w b tBook (bookC m lims)) :
    Calls Tryz.prog 80 #[.pointer (some ⟨b, 0, none⟩)] w fun e w' => e = .returned (.tuple #[]) ∧ w = w' := by
  have c := h.cell 9
  simp at c
  clear h
  go_enter Tryz.func80, Tryz.ntmps80
  go_wp2_with fail
  go_loop [2] (fun v => v = .int .i64 0) (fun _ => 0)
  case atStart => exact rfl
  case round =>
    subst hrel
    go_wp2_with fail
    exact bodyPost_end (v := .tuple #[]) (by simp [results, Tryz.results80, go_sem]) rfl ⟨rfl, rfl⟩

theorem look_Element (b m : Nat) (lims : Value) (w : World) (h : Blk w b tBook (bookC m lims)) :
    Calls Tryz.prog 96 #[.pointer (some ⟨b, 0, none⟩)] w fun e w' => e = .returned (.bool true) ∧ w = w' := by
  have c := h.cell 9
  simp at c
  clear h
  go_enter Tryz.func96, Tryz.ntmps96
  go_wp2_with fail
  go_loop [3] (fun v => v = .int .i64 0) (fun _ => 0)
  case atStart => exact rfl
  case round =>
    subst hrel
    go_wp2_with fail
    go_ret
    exact ⟨rfl, rfl⟩

theorem fill_Coat (b m : Nat) (lims : Value) (w : World) (h : Blk w b tBook (bookC m lims)) :
    Calls Tryz.prog 65 #[.pointer (some ⟨b, 0, none⟩)] w fun e w' => e = .returned (.tuple #[]) ∧ w = w' := by
  have c := h.cell 10
  simp at c
  clear h
  go_enter Tryz.func65, Tryz.ntmps65
  go_wp2_with fail
  go_loop [2] (fun v => v = .int .i64 0) (fun _ => 0)
  case atStart => exact rfl
  case round =>
    subst hrel
    go_wp2_with fail
    exact bodyPost_end (v := .tuple #[]) (by simp [results, Tryz.results65, go_sem]) rfl ⟨rfl, rfl⟩

theorem grow_Coat (b m : Nat) (lims : Value) (w : World) (h : Blk w b tBook (bookC m lims)) :
    Calls Tryz.prog 81 #[.pointer (some ⟨b, 0, none⟩)] w fun e w' => e = .returned (.tuple #[]) ∧ w = w' := by
  have c := h.cell 10
  simp at c
  clear h
  go_enter Tryz.func81, Tryz.ntmps81
  go_wp2_with fail
  go_loop [2] (fun v => v = .int .i64 0) (fun _ => 0)
  case atStart => exact rfl
  case round =>
    subst hrel
    go_wp2_with fail
    exact bodyPost_end (v := .tuple #[]) (by simp [results, Tryz.results81, go_sem]) rfl ⟨rfl, rfl⟩

theorem look_Coat (b m : Nat) (lims : Value) (w : World) (h : Blk w b tBook (bookC m lims)) :
    Calls Tryz.prog 97 #[.pointer (some ⟨b, 0, none⟩)] w fun e w' => e = .returned (.bool true) ∧ w = w' := by
  have c := h.cell 10
  simp at c
  clear h
  go_enter Tryz.func97, Tryz.ntmps97
  go_wp2_with fail
  go_loop [3] (fun v => v = .int .i64 0) (fun _ => 0)
  case atStart => exact rfl
  case round =>
    subst hrel
    go_wp2_with fail
    go_ret
    exact ⟨rfl, rfl⟩

theorem fill_Disc (b m : Nat) (lims : Value) (w : World) (h : Blk w b tBook (bookC m lims)) :
    Calls Tryz.prog 66 #[.pointer (some ⟨b, 0, none⟩)] w fun e w' => e = .returned (.tuple #[]) ∧ w = w' := by
  have c := h.cell 11
  simp at c
  clear h
  go_enter Tryz.func66, Tryz.ntmps66
  go_wp2_with fail
  go_loop [2] (fun v => v = .int .i64 0) (fun _ => 0)
  case atStart => exact rfl
  case round =>
    subst hrel
    go_wp2_with fail
    exact bodyPost_end (v := .tuple #[]) (by simp [results, Tryz.results66, go_sem]) rfl ⟨rfl, rfl⟩

theorem grow_Disc (b m : Nat) (lims : Value) (w : World) (h : Blk w b tBook (bookC m lims)) :
    Calls Tryz.prog 82 #[.pointer (some ⟨b, 0, none⟩)] w fun e w' => e = .returned (.tuple #[]) ∧ w = w' := by
  have c := h.cell 11
  simp at c
  clear h
  go_enter Tryz.func82, Tryz.ntmps82
  go_wp2_with fail
  go_loop [2] (fun v => v = .int .i64 0) (fun _ => 0)
  case atStart => exact rfl
  case round =>
    subst hrel
    go_wp2_with fail
    exact bodyPost_end (v := .tuple #[]) (by simp [results, Tryz.results82, go_sem]) rfl ⟨rfl, rfl⟩

theorem look_Disc (b m : Nat) (lims : Value) (w : World) (h : Blk w b tBook (bookC m lims)) :
    Calls Tryz.prog 98 #[.pointer (some ⟨b, 0, none⟩)] w fun e w' => e = .returned (.bool true) ∧ w = w' := by
  have c := h.cell 11
  simp at c
  clear h
  go_enter Tryz.func98, Tryz.ntmps98
  go_wp2_with fail
  go_loop [3] (fun v => v = .int .i64 0) (fun _ => 0)
  case atStart => exact rfl
  case round =>
    subst hrel
    go_wp2_with fail
    go_ret
    exact ⟨rfl, rfl⟩

theorem fill_Part (b m : Nat) (lims : Value) (w : World) (h : Blk w b tBook (bookC m lims)) :
    Calls Tryz.prog 67 #[.pointer (some ⟨b, 0, none⟩)] w fun e w' => e = .returned (.tuple #[]) ∧ w = w' := by
  have c := h.cell 12
  simp at c
  clear h
  go_enter Tryz.func67, Tryz.ntmps67
  go_wp2_with fail
  go_loop [2] (fun v => v = .int .i64 0) (fun _ => 0)
  case atStart => exact rfl
  case round =>
    subst hrel
    go_wp2_with fail
    exact bodyPost_end (v := .tuple #[]) (by simp [results, Tryz.results67, go_sem]) rfl ⟨rfl, rfl⟩

theorem grow_Part (b m : Nat) (lims : Value) (w : World) (h : Blk w b tBook (bookC m lims)) :
    Calls Tryz.prog 83 #[.pointer (some ⟨b, 0, none⟩)] w fun e w' => e = .returned (.tuple #[]) ∧ w = w' := by
  have c := h.cell 12
  simp at c
  clear h
  go_enter Tryz.func83, Tryz.ntmps83
  go_wp2_with fail
  go_loop [2] (fun v => v = .int .i64 0) (fun _ => 0)
  case atStart => exact rfl
  case round =>
    subst hrel
    go_wp2_with fail
    exact bodyPost_end (v := .tuple #[]) (by simp [results, Tryz.results83, go_sem]) rfl ⟨rfl, rfl⟩

theorem look_Part (b m : Nat) (lims : Value) (w : World) (h : Blk w b tBook (bookC m lims)) :
    Calls Tryz.prog 99 #[.pointer (some ⟨b, 0, none⟩)] w fun e w' => e = .returned (.bool true) ∧ w = w' := by
  have c := h.cell 12
  simp at c
  clear h
  go_enter Tryz.func99, Tryz.ntmps99
  go_wp2_with fail
  go_loop [3] (fun v => v = .int .i64 0) (fun _ => 0)
  case atStart => exact rfl
  case round =>
    subst hrel
    go_wp2_with fail
    go_ret
    exact ⟨rfl, rfl⟩

theorem fill_Def (b m : Nat) (lims : Value) (w : World) (h : Blk w b tBook (bookC m lims)) :
    Calls Tryz.prog 68 #[.pointer (some ⟨b, 0, none⟩)] w fun e w' => e = .returned (.tuple #[]) ∧ w = w' := by
  have c := h.cell 13
  simp at c
  clear h
  go_enter Tryz.func68, Tryz.ntmps68
  go_wp2_with fail
  go_loop [2] (fun v => v = .int .i64 0) (fun _ => 0)
  case atStart => exact rfl
  case round =>
    subst hrel
    go_wp2_with fail
    exact bodyPost_end (v := .tuple #[]) (by simp [results, Tryz.results68, go_sem]) rfl ⟨rfl, rfl⟩

theorem grow_Def (b m : Nat) (lims : Value) (w : World) (h : Blk w b tBook (bookC m lims)) :
    Calls Tryz.prog 84 #[.pointer (some ⟨b, 0, none⟩)] w fun e w' => e = .returned (.tuple #[]) ∧ w = w' := by
  have c := h.cell 13
  simp at c
  clear h
  go_enter Tryz.func84, Tryz.ntmps84
  go_wp2_with fail
  go_loop [2] (fun v => v = .int .i64 0) (fun _ => 0)
  case atStart => exact rfl
  case round =>
    subst hrel
    go_wp2_with fail
    exact bodyPost_end (v := .tuple #[]) (by simp [results, Tryz.results84, go_sem]) rfl ⟨rfl, rfl⟩

theorem look_Def (b m : Nat) (lims : Value) (w : World) (h : Blk w b tBook (bookC m lims)) :
    Calls Tryz.prog 100 #[.pointer (some ⟨b, 0, none⟩)] w fun e w' => e = .returned (.bool true) ∧ w = w' := by
  have c := h.cell 13
  simp at c
  clear h
  go_enter Tryz.func100, Tryz.ntmps100
  go_wp2_with fail
  go_loop [3] (fun v => v = .int .i64 0) (fun _ => 0)
  case atStart => exact rfl
  case round =>
    subst hrel
    go_wp2_with fail
    go_ret
    exact ⟨rfl, rfl⟩

theorem fill_Item (b m : Nat) (lims : Value) (w : World) (h : Blk w b tBook (bookC m lims)) :
    Calls Tryz.prog 69 #[.pointer (some ⟨b, 0, none⟩)] w fun e w' => e = .returned (.tuple #[]) ∧ w = w' := by
  have c := h.cell 14
  simp at c
  clear h
  go_enter Tryz.func69, Tryz.ntmps69
  go_wp2_with fail
  go_loop [2] (fun v => v = .int .i64 0) (fun _ => 0)
  case atStart => exact rfl
  case round =>
    subst hrel
    go_wp2_with fail
    exact bodyPost_end (v := .tuple #[]) (by simp [results, Tryz.results69, go_sem]) rfl ⟨rfl, rfl⟩

theorem grow_Item (b m : Nat) (lims : Value) (w : World) (h : Blk w b tBook (bookC m lims)) :
    Calls Tryz.prog 85 #[.pointer (some ⟨b, 0, none⟩)] w fun e w' => e = .returned (.tuple #[]) ∧ w = w' := by
  have c := h.cell 14
  simp at c
  clear h
  go_enter Tryz.func85, Tryz.ntmps85
  go_wp2_with fail
  go_loop [2] (fun v => v = .int .i64 0) (fun _ => 0)
  case atStart => exact rfl
  case round =>
    subst hrel
    go_wp2_with fail
    exact bodyPost_end (v := .tuple #[]) (by simp [results, Tryz.results85, go_sem]) rfl ⟨rfl, rfl⟩

theorem look_Item (b m : Nat) (lims : Value) (w : World) (h : Blk w b tBook (bookC m lims)) :
    Calls Tryz.prog 101 #[.pointer (some ⟨b, 0, none⟩)] w fun e w' => e = .returned (.bool true) ∧ w = w' := by
  have c := h.cell 14
  simp at c
  clear h
  go_enter Tryz.func101, Tryz.ntmps101
  go_wp2_with fail
  go_loop [3] (fun v => v = .int .i64 0) (fun _ => 0)
  case atStart => exact rfl
  case round =>
    subst hrel
    go_wp2_with fail
    go_ret
    exact ⟨rfl, rfl⟩

theorem fill_Act (b m : Nat) (lims : Value) (w : World) (h : Blk w b tBook (bookC m lims)) :
    Calls Tryz.prog 70 #[.pointer (some ⟨b, 0, none⟩)] w fun e w' => e = .returned (.tuple #[]) ∧ w = w' := by
  have c := h.cell 15
  simp at c
  clear h
  go_enter Tryz.func70, Tryz.ntmps70
  go_wp2_with fail
  go_loop [2] (fun v => v = .int .i64 0) (fun _ => 0)
  case atStart => exact rfl
  case round =>
    subst hrel
    go_wp2_with fail
    exact bodyPost_end (v := .tuple #[]) (by simp [results, Tryz.results70, go_sem]) rfl ⟨rfl, rfl⟩

theorem grow_Act (b m : Nat) (lims : Value) (w : World) (h : Blk w b tBook (bookC m lims)) :
    Calls Tryz.prog 86 #[.pointer (some ⟨b, 0, none⟩)] w fun e w' => e = .returned (.tuple #[]) ∧ w = w' := by
  have c := h.cell 15
  simp at c
  clear h
  go_enter Tryz.func86, Tryz.ntmps86
  go_wp2_with fail
  go_loop [2] (fun v => v = .int .i64 0) (fun _ => 0)
  case atStart => exact rfl
  case round =>
    subst hrel
    go_wp2_with fail
    exact bodyPost_end (v := .tuple #[]) (by simp [results, Tryz.results86, go_sem]) rfl ⟨rfl, rfl⟩

theorem look_Act (b m : Nat) (lims : Value) (w : World) (h : Blk w b tBook (bookC m lims)) :
    Calls Tryz.prog 102 #[.pointer (some ⟨b, 0, none⟩)] w fun e w' => e = .returned (.bool true) ∧ w = w' := by
  have c := h.cell 15
  simp at c
  clear h
  go_enter Tryz.func102, Tryz.ntmps102
  go_wp2_with fail
  go_loop [3] (fun v => v = .int .i64 0) (fun _ => 0)
  case atStart => exact rfl
  case round =>
    subst hrel
    go_wp2_with fail
    go_ret
    exact ⟨rfl, rfl⟩

theorem fill_Reply (b m : Nat) (lims : Value) (w : World) (h : Blk w b tBook (bookC m lims)) :
    Calls Tryz.prog 71 #[.pointer (some ⟨b, 0, none⟩)] w fun e w' => e = .returned (.tuple #[]) ∧ w = w' := by
  have c := h.cell 16
  simp at c
  clear h
  go_enter Tryz.func71, Tryz.ntmps71
  go_wp2_with fail
  go_loop [2] (fun v => v = .int .i64 0) (fun _ => 0)
  case atStart => exact rfl
  case round =>
    subst hrel
    go_wp2_with fail
    exact bodyPost_end (v := .tuple #[]) (by simp [results, Tryz.results71, go_sem]) rfl ⟨rfl, rfl⟩

theorem grow_Reply (b m : Nat) (lims : Value) (w : World) (h : Blk w b tBook (bookC m lims)) :
    Calls Tryz.prog 87 #[.pointer (some ⟨b, 0, none⟩)] w fun e w' => e = .returned (.tuple #[]) ∧ w = w' := by
  have c := h.cell 16
  simp at c
  clear h
  go_enter Tryz.func87, Tryz.ntmps87
  go_wp2_with fail
  go_loop [2] (fun v => v = .int .i64 0) (fun _ => 0)
  case atStart => exact rfl
  case round =>
    subst hrel
    go_wp2_with fail
    exact bodyPost_end (v := .tuple #[]) (by simp [results, Tryz.results87, go_sem]) rfl ⟨rfl, rfl⟩

theorem look_Reply (b m : Nat) (lims : Value) (w : World) (h : Blk w b tBook (bookC m lims)) :
    Calls Tryz.prog 103 #[.pointer (some ⟨b, 0, none⟩)] w fun e w' => e = .returned (.bool true) ∧ w = w' := by
  have c := h.cell 16
  simp at c
  clear h
  go_enter Tryz.func103, Tryz.ntmps103
  go_wp2_with fail
  go_loop [3] (fun v => v = .int .i64 0) (fun _ => 0)
  case atStart => exact rfl
  case round =>
    subst hrel
    go_wp2_with fail
    go_ret
    exact ⟨rfl, rfl⟩
/- fillLimb: marks are written into all lists of a Book. -/

theorem mark_limb (j : Nat) (hj : j ≤ 100000) (w : World) :
    Calls Tryz.prog 159 #[.int .i64 ((j : Int) + 1)] w fun e w' => e = .returned (markU j) ∧ w = w' := by
  go_enter Tryz.func159, Tryz.ntmps159
  go_wp2
  go_ret
  refine ⟨congrArg (fun z : Int => Ending.returned (Value.int .u32 z)) ?_, rfl⟩
  omega

theorem own_blk {w : World} {base : Nat} {e : TypeId} {A : Option Addr} {n c : Nat} {xs : List Value} (h : w.ownsRow base e 1 (.slice A n c) n xs) (hn : 0 < n) : ∃ g cur, A = some ⟨g, 0, none⟩ ∧ Blk w g e cur ∧ n ≤ cur.size ∧ cur.toList.take n = xs := by
  rcases h.2 with ⟨h1, h2⟩ | ⟨g, cap, cur, h1, h2, h3, h4, h5, h6, h7⟩
  · omega
  · injection h1 with a1 a2 a3
    exact ⟨g, cur, a1, h3, by omega, by rw [Nat.mul_one] at h7; exact h7⟩
theorem replicate_set {n k : Nat} {v : Value} {Y : List Value} (hl : Y.length = n) (hk : k < n) (h : Y.take k = List.replicate k v) : (Y.set k v).take (k + 1) = List.replicate (k + 1) v := by
  rw [List.take_succ_eq_append_getElem (by simp; omega), List.take_set_of_le (Nat.le_refl _), h]
  simp [List.replicate_succ']

theorem fill_limb (b g0 cap m B0 : Nat) (l : Nat → Value) (n : Nat → Nat) (X : Nat → List Value) (w0 w : World) (p : Plain b g0 m B0 l n) (h : Shelf w0 w b g0 cap m B0 l (fun _ => nilS) n X) :
    Calls Tryz.prog 56 #[.pointer (some ⟨b, 0, none⟩)] w fun e w' => e = .returned (.tuple #[]) ∧ Shelf w0 w' b g0 cap m B0 l (fun _ => nilS) n (fun j => List.replicate (n j) (markU j)) := by
  have hm := p.hm
  have HP := Hd p
  have H0 := Hd (⟨X, h, fun j hj _ => absurd hj (Nat.not_lt_zero j)⟩ : ∃ Y, Shelf w0 w b g0 cap m B0 l (fun _ => nilS) n Y ∧ ∀ j, j < 0 → j < m → Y j = List.replicate (n j) (markU j))
  clear p h
  go_enter Tryz.func56, Tryz.ntmps56
  go_wp2_with fail
  go_loopw [2] (fun s wr => ∃ i : Nat, s = .int .i64 i ∧ i ≤ m ∧ Hid (∃ Y, Shelf w0 wr b g0 cap m B0 l (fun _ => nilS) n Y ∧ ∀ j, j < i → j < m → Y j = List.replicate (n j) (markU j))) (fun s _ => m - (intOf s).toNat)
  case atStart => exact ⟨0, rfl, Nat.zero_le _, H0⟩
  case round =>
    obtain ⟨i, rfl, hi, HR⟩ := hrel
    clear H0
    obtain ⟨Y, hsh, hY⟩ := HR.out
    have hbk := hsh.book
    have c1 := hbk.cell 1
    simp at c1
    have HS := Hd hsh
    have HY := Hd hY
    clear HR hsh hY hbk
    by_cases hlt : i < m
    · have a0 : (0 : Int) ≤ (i : Int) := by omega
      have a1 : (i : Int) < (m : Int) := by omega
      obtain ⟨d0, d1, d2, -⟩ := HS.out.arr.at_ hlt
      obtain ⟨Ai, ci, hl⟩ := own_form (by omega) (HS.out.rows i hlt)
      have HL := Hd hl
      rw [hl] at d0
      clear hl
      go_wp2_with fail
      have hcopy := Blk.new wr tHeld #[.slice Ai (n i) ci, nilS, .int .i64 ((i : Int) + 1)]
      have hNh := HS.out.arr.lt
      have hsh1 := HS.out.alloc HP.out (.cells #[.slice Ai (n i) ci, nilS, .int .i64 ((i : Int) + 1)] tHeld)
      obtain ⟨W, E⟩ : ∃ W, W = wr.alloc (.cells #[.slice Ai (n i) ci, nilS, .int .i64 ((i : Int) + 1)] tHeld) := ⟨_, rfl⟩
      rw [← E] at hcopy hsh1 ⊢
      clear E c1 d0 d1 d2
      have hni := HP.out.hn i hlt
      have H1 := Hd (⟨Y, hsh1, HY.out, rfl, hcopy⟩ : ∃ Z, Shelf w0 W b g0 cap m B0 l (fun _ => nilS) n Z ∧ (∀ j, j < i → j < m → Z j = List.replicate (n j) (markU j)) ∧ (Z i).take 0 = List.replicate 0 (markU i) ∧ Blk W wr.heap.size tHeld #[.slice Ai (n i) ci, nilS, .int .i64 ((i : Int) + 1)])
      obtain ⟨ni, hnn⟩ : ∃ ni, ni = n i := ⟨_, rfl⟩
      obtain ⟨Nh, hNN⟩ : ∃ Nh, Nh = wr.heap.size := ⟨_, rfl⟩
      rw [← hnn] at HL H1 hni ⊢
      rw [← hNN] at H1 hNh ⊢
      have HNN := Hd hnn
      clear hcopy hsh1 hnn hNN HS HY
      go_loopw [4] (fun s wq => ∃ k : Nat, s = .int .i64 k ∧ k ≤ ni ∧ Hid (∃ Z, Shelf w0 wq b g0 cap m B0 l (fun _ => nilS) n Z ∧ (∀ j, j < i → j < m → Z j = List.replicate (n j) (markU j)) ∧ (Z i).take k = List.replicate k (markU i) ∧ Blk wq Nh tHeld #[.slice Ai ni ci, nilS, .int .i64 ((i : Int) + 1)])) (fun s _ => ni - (intOf s).toNat)
      case atStart => exact ⟨0, rfl, Nat.zero_le _, H1⟩
      case round =>
        obtain ⟨k, rfl, hk, HR⟩ := hrel
        clear H1
        obtain ⟨Z, hz1, hz2, hz3, hz4⟩ := HR.out
        have e0 := hz4.cell 0
        have e2 := hz4.cell 2
        have hlt4 := hz4.lt
        simp at e0 e2
        have HZ1 := Hd hz1
        have HZ2 := Hd hz2
        have HZ3 := Hd hz3
        have HZ4 := Hd hz4
        clear HR hz1 hz2 hz3 hz4
        by_cases hlk : k < ni
        · have q0 : (0 : Int) ≤ (k : Int) := by omega
          have q1 : (k : Int) < (ni : Int) := by omega
          obtain ⟨g, cur, rfl, hblk, hcs, -⟩ := own_blk (by have := HZ1.out.rows i hlt; rw [HL.out, ← HNN.out] at this; exact this) (by omega)
          have S : ∀ V, Below wr.heap.size wr V → ∃ Z, Shelf w0 (V.setCell ⟨g, k, none⟩ (markU i)) b g0 cap m B0 l (fun _ => nilS) n Z ∧ (∀ j, j < i → j < m → Z j = List.replicate (n j) (markU j)) ∧ (Z i).take (k + 1) = List.replicate (k + 1) (markU i) ∧ Blk (V.setCell ⟨g, k, none⟩ (markU i)) Nh tHeld #[.slice (some ⟨g, 0, none⟩) ni ci, nilS, .int .i64 ((i : Int) + 1)] := fun V hV => by
            have hl2 : l i = .slice (some ⟨g, 0, none⟩) (n i) ci := by rw [HL.out, HNN.out]
            have hne : Nh ≠ g := fun e => own_blk_ne (HZ1.out.rows i hlt) HZ4.out (by decide) (by rw [hl2, e]; rfl)
            refine ⟨_, (HZ1.out.below HP.out hV).write HP.out hlt hl2 (by rw [← HNN.out]; exact hlk) (markU i), fun j hj hjm => ?_, ?_, (HZ4.out.below hV HZ4.out.lt).far (p := ⟨g, k, none⟩) hne _⟩
            · rw [updL_ne _ _ (by omega)]; exact HZ2.out j hj hjm
            · rw [updL_same]
              exact replicate_set (n := ni) (by rw [(HZ1.out.rows i hlt).1, HNN.out]; omega) hlk HZ3.out
          have HS := Hd S
          have HK := Hd hblk
          clear S hblk
          go_wp2_with fail
          clear e0 e2
          refine wp_region_steps [.val (.pointer (some ⟨Nh, 0, none⟩)), .val (.slice (some ⟨g, 0, none⟩) ni ci), .val (.int .i64 k), .val (.pointer (some ⟨Nh, 2, none⟩)), .val (.int .i64 ((i : Int) + 1)), .val (markU i), .val (.pointer (some ⟨g, k, none⟩)), .step] 0 1 wr
            (fun _ _ => True) (fun _ V => ∃ V0, Below wr.heap.size wr V0 ∧ V = V0.setCell ⟨g, k, none⟩ (markU i))
            _ mixedOrders2 (by kernel_rfl) (by kernel_rfl) (by kernel_rfl) (by kernel_rfl) (by kernel_rfl) (by kernel_rfl) (by kernel_rfl) (by kernel_rfl) (by kernel_rfl) rfl (fun _ _ _ _ _ => trivial) (Below.refl _ _) trivial ?_ ?_ ?_
          · simp [ValsOk, chainAct, fill, pairs, valAt]
            repeat' apply And.intro
            all_goals
              intro V hV
              have hx := HZ4.out.below hV HZ4.out.lt
              have e0 := hx.cell 0
              have e2 := hx.cell 2
              simp at e0 e2
              clear hV hx
              go_simp
              first | exact Below.refl _ _ | ((with_reducible refine (mark_limb i (by omega) _).mono ?_); rintro e w' ⟨rfl, rfl⟩; exact ⟨rfl, Below.refl _ _⟩)
          · simp [StepsOk, chainAct, fill, pairs, valAt, stepNo]
            intro V hV
            have hx := HK.out.below hV HK.out.lt
            have c1 := hx.cell k
            rw [Array.getElem?_eq_getElem (by omega)] at c1
            generalize cur[k] = old at c1
            have f1 := hx.frozen k
            unfold markU
            go_simp
            exact ⟨V, hV, rfl⟩
          · intro us V hus hF
            simp only [show ¬ (1 ≤ 0) by decide, if_false] at hF
            obtain ⟨V0, hV0, rfl⟩ := hF
            obtain ⟨u0, rfl⟩ : ∃ u0, us = [u0] := by
              match us, hus with
              | [u0], _ => exact ⟨u0, rfl⟩
            simp [chainAct, fill, pairs, valAt, stepNo]
            have S := Hd (HS.out V0 hV0)
            clear hV0 HS HK
            go_wp2_with fail
            go_roundw
            case rel => exact ⟨k + 1, by go_num, hlk, S⟩
            case measure => simp [intOf]; omega
        · obtain rfl : k = ni := by omega
          have S := Hd (⟨Z, HZ1.out, fun j hj hjm => by
            rcases (by omega : j < i ∨ j = i) with hj | rfl
            · exact HZ2.out j hj hjm
            · have e := HZ3.out
              rw [List.take_of_length_le (by rw [(HZ1.out.rows j hlt).1, ← HNN.out]; omega)] at e
              rw [e, HNN.out]⟩ : ∃ Y, Shelf w0 wr b g0 cap m B0 l (fun _ => nilS) n Y ∧ ∀ j, j < i + 1 → j < m → Y j = List.replicate (n j) (markU j))
          clear HZ1 HZ2 HZ3 HZ4
          go_wp2_with fail
          go_roundw
          case rel => exact ⟨i + 1, by go_num, hlt, S⟩
          case measure => simp [intOf]; omega
    · obtain rfl : i = m := by omega
      have HF := Hd (show Shelf w0 wr b g0 cap i B0 l (fun _ => nilS) n (fun j => List.replicate (n j) (markU j)) from
        ⟨HS.out.book, HS.out.arr, fun j hj => by have := HS.out.rows j hj; rwa [HY.out j hj hj] at this, HS.out.low⟩)
      clear HP HS HY
      go_wp2_with fail
      exact bodyPost_end (v := .tuple #[]) (by simp [results, Tryz.results56, go_sem]) rfl ⟨rfl, HF.out⟩
end Go.Proofs.YthlehkjcfhnplaaGreatDoor
