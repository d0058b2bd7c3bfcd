/- Several texts in one: Nil, Fill, Grow, GrowW, Look. -/
import Derived.Test.YtdonecnhdkjniaaGreatDoorGx17
set_option maxRecDepth 100000
set_option maxHeartbeats 8000000
namespace Go.Proofs.YtdonecnhdkjniaaGreatDoor
open Go.RowKit

theorem fill_Number (b m : Nat) (lims : Value) (w : World) (h : ZJ w b Z2 (Z6 m lims)) :
  Calls Tryz.prog 39 #[.pointer (some ⟨b, 0, none⟩)] w fun e w' => e = .returned (.tuple #[]) /\ w = w' := by
 have c := h.cell 2
 simp at c
 clear h
 go_enter Tryz.func39, Tryz.ntmps39
 go_wp2_with fail
 go_loop [2] (fun v => v = .int .i64 0) (fun _ => 0)
 case atStart => exact rfl
 case round =>
  subst hrel
  go_wp2_with fail
  exact bodyPost_end (v := .tuple #[]) (by simp [results, Tryz.results39, go_sem]) rfl ⟨rfl, rfl⟩

theorem grow_Number (b m : Nat) (lims : Value) (w : World) (h : ZJ w b Z2 (Z6 m lims)) :
  Calls Tryz.prog 55 #[.pointer (some ⟨b, 0, none⟩)] w fun e w' => e = .returned (.tuple #[]) /\ w = w' := by
 have c := h.cell 2
 simp at c
 clear h
 go_enter Tryz.func55, Tryz.ntmps55
 go_wp2_with fail
 go_loop [2] (fun v => v = .int .i64 0) (fun _ => 0)
 case atStart => exact rfl
 case round =>
  subst hrel
  go_wp2_with fail
  exact bodyPost_end (v := .tuple #[]) (by simp [results, Tryz.results55, go_sem]) rfl ⟨rfl, rfl⟩

theorem look_Number (b m : Nat) (lims : Value) (w : World) (h : ZJ w b Z2 (Z6 m lims)) :
  Calls Tryz.prog 71 #[.pointer (some ⟨b, 0, none⟩)] w fun e w' => e = .returned (.bool true) /\ w = w' := by
 have c := h.cell 2
 simp at c
 clear h
 go_enter Tryz.func71, Tryz.ntmps71
 go_wp2_with fail
 go_loop [3] (fun v => v = .int .i64 0) (fun _ => 0)
 case atStart => exact rfl
 case round =>
  subst hrel
  go_wp2_with fail
  go_ret
  exact ⟨rfl, rfl⟩

theorem fill_Float (b m : Nat) (lims : Value) (w : World) (h : ZJ w b Z2 (Z6 m lims)) :
  Calls Tryz.prog 40 #[.pointer (some ⟨b, 0, none⟩)] w fun e w' => e = .returned (.tuple #[]) /\ w = w' := by
 have c := h.cell 3
 simp at c
 clear h
 go_enter Tryz.func40, Tryz.ntmps40
 go_wp2_with fail
 go_loop [2] (fun v => v = .int .i64 0) (fun _ => 0)
 case atStart => exact rfl
 case round =>
  subst hrel
  go_wp2_with fail
  exact bodyPost_end (v := .tuple #[]) (by simp [results, Tryz.results40, go_sem]) rfl ⟨rfl, rfl⟩

theorem grow_Float (b m : Nat) (lims : Value) (w : World) (h : ZJ w b Z2 (Z6 m lims)) :
  Calls Tryz.prog 56 #[.pointer (some ⟨b, 0, none⟩)] w fun e w' => e = .returned (.tuple #[]) /\ w = w' := by
 have c := h.cell 3
 simp at c
 clear h
 go_enter Tryz.func56, Tryz.ntmps56
 go_wp2_with fail
 go_loop [2] (fun v => v = .int .i64 0) (fun _ => 0)
 case atStart => exact rfl
 case round =>
  subst hrel
  go_wp2_with fail
  exact bodyPost_end (v := .tuple #[]) (by simp [results, Tryz.results56, go_sem]) rfl ⟨rfl, rfl⟩

theorem look_Float (b m : Nat) (lims : Value) (w : World) (h : ZJ w b Z2 (Z6 m lims)) :
  Calls Tryz.prog 72 #[.pointer (some ⟨b, 0, none⟩)] w fun e w' => e = .returned (.bool true) /\ w = w' := by
 have c := h.cell 3
 simp at c
 clear h
 go_enter Tryz.func72, Tryz.ntmps72
 go_wp2_with fail
 go_loop [3] (fun v => v = .int .i64 0) (fun _ => 0)
 case atStart => exact rfl
 case round =>
  subst hrel
  go_wp2_with fail
  go_ret
  exact ⟨rfl, rfl⟩

theorem fill_Complex (b m : Nat) (lims : Value) (w : World) (h : ZJ w b Z2 (Z6 m lims)) :
  Calls Tryz.prog 41 #[.pointer (some ⟨b, 0, none⟩)] w fun e w' => e = .returned (.tuple #[]) /\ w = w' := by
 have c := h.cell 4
 simp at c
 clear h
 go_enter Tryz.func41, Tryz.ntmps41
 go_wp2_with fail
 go_loop [2] (fun v => v = .int .i64 0) (fun _ => 0)
 case atStart => exact rfl
 case round =>
  subst hrel
  go_wp2_with fail
  exact bodyPost_end (v := .tuple #[]) (by simp [results, Tryz.results41, go_sem]) rfl ⟨rfl, rfl⟩

theorem grow_Complex (b m : Nat) (lims : Value) (w : World) (h : ZJ w b Z2 (Z6 m lims)) :
  Calls Tryz.prog 57 #[.pointer (some ⟨b, 0, none⟩)] w fun e w' => e = .returned (.tuple #[]) /\ w = w' := by
 have c := h.cell 4
 simp at c
 clear h
 go_enter Tryz.func57, Tryz.ntmps57
 go_wp2_with fail
 go_loop [2] (fun v => v = .int .i64 0) (fun _ => 0)
 case atStart => exact rfl
 case round =>
  subst hrel
  go_wp2_with fail
  exact bodyPost_end (v := .tuple #[]) (by simp [results, Tryz.results57, go_sem]) rfl ⟨rfl, rfl⟩

theorem look_Complex (b m : Nat) (lims : Value) (w : World) (h : ZJ w b Z2 (Z6 m lims)) :
  Calls Tryz.prog 73 #[.pointer (some ⟨b, 0, none⟩)] w fun e w' => e = .returned (.bool true) /\ w = w' := by
 have c := h.cell 4
 simp at c
 clear h
 go_enter Tryz.func73, Tryz.ntmps73
 go_wp2_with fail
 go_loop [3] (fun v => v = .int .i64 0) (fun _ => 0)
 case atStart => exact rfl
 case round =>
  subst hrel
  go_wp2_with fail
  go_ret
  exact ⟨rfl, rfl⟩

theorem fill_Text (b m : Nat) (lims : Value) (w : World) (h : ZJ w b Z2 (Z6 m lims)) :
  Calls Tryz.prog 42 #[.pointer (some ⟨b, 0, none⟩)] w fun e w' => e = .returned (.tuple #[]) /\ w = w' := by
 have c := h.cell 5
 simp at c
 clear h
 go_enter Tryz.func42, Tryz.ntmps42
 go_wp2_with fail
 go_loop [2] (fun v => v = .int .i64 0) (fun _ => 0)
 case atStart => exact rfl
 case round =>
  subst hrel
  go_wp2_with fail
  exact bodyPost_end (v := .tuple #[]) (by simp [results, Tryz.results42, go_sem]) rfl ⟨rfl, rfl⟩

theorem grow_Text (b m : Nat) (lims : Value) (w : World) (h : ZJ w b Z2 (Z6 m lims)) :
  Calls Tryz.prog 58 #[.pointer (some ⟨b, 0, none⟩)] w fun e w' => e = .returned (.tuple #[]) /\ w = w' := by
 have c := h.cell 5
 simp at c
 clear h
 go_enter Tryz.func58, Tryz.ntmps58
 go_wp2_with fail
 go_loop [2] (fun v => v = .int .i64 0) (fun _ => 0)
 case atStart => exact rfl
 case round =>
  subst hrel
  go_wp2_with fail
  exact bodyPost_end (v := .tuple #[]) (by simp [results, Tryz.results58, go_sem]) rfl ⟨rfl, rfl⟩

theorem look_Text (b m : Nat) (lims : Value) (w : World) (h : ZJ w b Z2 (Z6 m lims)) :
  Calls Tryz.prog 74 #[.pointer (some ⟨b, 0, none⟩)] w fun e w' => e = .returned (.bool true) /\ w = w' := by
 have c := h.cell 5
 simp at c
 clear h
 go_enter Tryz.func74, Tryz.ntmps74
 go_wp2_with fail
 go_loop [3] (fun v => v = .int .i64 0) (fun _ => 0)
 case atStart => exact rfl
 case round =>
  subst hrel
  go_wp2_with fail
  go_ret
  exact ⟨rfl, rfl⟩

theorem fill_Frac (b m : Nat) (lims : Value) (w : World) (h : ZJ w b Z2 (Z6 m lims)) :
  Calls Tryz.prog 43 #[.pointer (some ⟨b, 0, none⟩)] w fun e w' => e = .returned (.tuple #[]) /\ w = w' := by
 have c := h.cell 6
 simp at c
 clear h
 go_enter Tryz.func43, Tryz.ntmps43
 go_wp2_with fail
 go_loop [2] (fun v => v = .int .i64 0) (fun _ => 0)
 case atStart => exact rfl
 case round =>
  subst hrel
  go_wp2_with fail
  exact bodyPost_end (v := .tuple #[]) (by simp [results, Tryz.results43, go_sem]) rfl ⟨rfl, rfl⟩

theorem grow_Frac (b m : Nat) (lims : Value) (w : World) (h : ZJ w b Z2 (Z6 m lims)) :
  Calls Tryz.prog 59 #[.pointer (some ⟨b, 0, none⟩)] w fun e w' => e = .returned (.tuple #[]) /\ w = w' := by
 have c := h.cell 6
 simp at c
 clear h
 go_enter Tryz.func59, Tryz.ntmps59
 go_wp2_with fail
 go_loop [2] (fun v => v = .int .i64 0) (fun _ => 0)
 case atStart => exact rfl
 case round =>
  subst hrel
  go_wp2_with fail
  exact bodyPost_end (v := .tuple #[]) (by simp [results, Tryz.results59, go_sem]) rfl ⟨rfl, rfl⟩

theorem look_Frac (b m : Nat) (lims : Value) (w : World) (h : ZJ w b Z2 (Z6 m lims)) :
  Calls Tryz.prog 75 #[.pointer (some ⟨b, 0, none⟩)] w fun e w' => e = .returned (.bool true) /\ w = w' := by
 have c := h.cell 6
 simp at c
 clear h
 go_enter Tryz.func75, Tryz.ntmps75
 go_wp2_with fail
 go_loop [3] (fun v => v = .int .i64 0) (fun _ => 0)
 case atStart => exact rfl
 case round =>
  subst hrel
  go_wp2_with fail
  go_ret
  exact ⟨rfl, rfl⟩

theorem fill_Gauss (b m : Nat) (lims : Value) (w : World) (h : ZJ w b Z2 (Z6 m lims)) :
  Calls Tryz.prog 44 #[.pointer (some ⟨b, 0, none⟩)] w fun e w' => e = .returned (.tuple #[]) /\ w = w' := by
 have c := h.cell 7
 simp at c
 clear h
 go_enter Tryz.func44, Tryz.ntmps44
 go_wp2_with fail
 go_loop [2] (fun v => v = .int .i64 0) (fun _ => 0)
 case atStart => exact rfl
 case round =>
  subst hrel
  go_wp2_with fail
  exact bodyPost_end (v := .tuple #[]) (by simp [results, Tryz.results44, go_sem]) rfl ⟨rfl, rfl⟩

theorem grow_Gauss (b m : Nat) (lims : Value) (w : World) (h : ZJ w b Z2 (Z6 m lims)) :
  Calls Tryz.prog 60 #[.pointer (some ⟨b, 0, none⟩)] w fun e w' => e = .returned (.tuple #[]) /\ w = w' := by
 have c := h.cell 7
 simp at c
 clear h
 go_enter Tryz.func60, Tryz.ntmps60
 go_wp2_with fail
 go_loop [2] (fun v => v = .int .i64 0) (fun _ => 0)
 case atStart => exact rfl
 case round =>
  subst hrel
  go_wp2_with fail
  exact bodyPost_end (v := .tuple #[]) (by simp [results, Tryz.results60, go_sem]) rfl ⟨rfl, rfl⟩

theorem look_Gauss (b m : Nat) (lims : Value) (w : World) (h : ZJ w b Z2 (Z6 m lims)) :
  Calls Tryz.prog 76 #[.pointer (some ⟨b, 0, none⟩)] w fun e w' => e = .returned (.bool true) /\ w = w' := by
 have c := h.cell 7
 simp at c
 clear h
 go_enter Tryz.func76, Tryz.ntmps76
 go_wp2_with fail
 go_loop [3] (fun v => v = .int .i64 0) (fun _ => 0)
 case atStart => exact rfl
 case round =>
  subst hrel
  go_wp2_with fail
  go_ret
  exact ⟨rfl, rfl⟩

theorem fill_Ray (b m : Nat) (lims : Value) (w : World) (h : ZJ w b Z2 (Z6 m lims)) :
  Calls Tryz.prog 45 #[.pointer (some ⟨b, 0, none⟩)] w fun e w' => e = .returned (.tuple #[]) /\ w = w' := by
 have c := h.cell 8
 simp at c
 clear h
 go_enter Tryz.func45, Tryz.ntmps45
 go_wp2_with fail
 go_loop [2] (fun v => v = .int .i64 0) (fun _ => 0)
 case atStart => exact rfl
 case round =>
  subst hrel
  go_wp2_with fail
  exact bodyPost_end (v := .tuple #[]) (by simp [results, Tryz.results45, go_sem]) rfl ⟨rfl, rfl⟩

theorem grow_Ray (b m : Nat) (lims : Value) (w : World) (h : ZJ w b Z2 (Z6 m lims)) :
  Calls Tryz.prog 61 #[.pointer (some ⟨b, 0, none⟩)] w fun e w' => e = .returned (.tuple #[]) /\ w = w' := by
 have c := h.cell 8
 simp at c
 clear h
 go_enter Tryz.func61, Tryz.ntmps61
 go_wp2_with fail
 go_loop [2] (fun v => v = .int .i64 0) (fun _ => 0)
 case atStart => exact rfl
 case round =>
  subst hrel
  go_wp2_with fail
  exact bodyPost_end (v := .tuple #[]) (by simp [results, Tryz.results61, go_sem]) rfl ⟨rfl, rfl⟩

theorem look_Ray (b m : Nat) (lims : Value) (w : World) (h : ZJ w b Z2 (Z6 m lims)) :
  Calls Tryz.prog 77 #[.pointer (some ⟨b, 0, none⟩)] w fun e w' => e = .returned (.bool true) /\ w = w' := by
 have c := h.cell 8
 simp at c
 clear h
 go_enter Tryz.func77, Tryz.ntmps77
 go_wp2_with fail
 go_loop [3] (fun v => v = .int .i64 0) (fun _ => 0)
 case atStart => exact rfl
 case round =>
  subst hrel
  go_wp2_with fail
  go_ret
  exact ⟨rfl, rfl⟩

theorem fill_Element (b m : Nat) (lims : Value) (w : World) (h : ZJ w b Z2 (Z6 m lims)) :
  Calls Tryz.prog 46 #[.pointer (some ⟨b, 0, none⟩)] w fun e w' => e = .returned (.tuple #[]) /\ w = w' := by
 have c := h.cell 9
 simp at c
 clear h
 go_enter Tryz.func46, Tryz.ntmps46
 go_wp2_with fail
 go_loop [2] (fun v => v = .int .i64 0) (fun _ => 0)
 case atStart => exact rfl
 case round =>
  subst hrel
  go_wp2_with fail
  exact bodyPost_end (v := .tuple #[]) (by simp [results, Tryz.results46, go_sem]) rfl ⟨rfl, rfl⟩

theorem grow_Element (b m : Nat) (lims : Value) (w : World) (h : ZJ w b Z2 (Z6 m lims)) :
  Calls Tryz.prog 62 #[.pointer (some ⟨b, 0, none⟩)] w fun e w' => e = .returned (.tuple #[]) /\ w = w' := by
 have c := h.cell 9
 simp at c
 clear h
 go_enter Tryz.func62, Tryz.ntmps62
 go_wp2_with fail
 go_loop [2] (fun v => v = .int .i64 0) (fun _ => 0)
 case atStart => exact rfl
 case round =>
  subst hrel
  go_wp2_with fail
  exact bodyPost_end (v := .tuple #[]) (by simp [results, Tryz.results62, go_sem]) rfl ⟨rfl, rfl⟩

theorem look_Element (b m : Nat) (lims : Value) (w : World) (h : ZJ w b Z2 (Z6 m lims)) :
  Calls Tryz.prog 78 #[.pointer (some ⟨b, 0, none⟩)] w fun e w' => e = .returned (.bool true) /\ w = w' := by
 have c := h.cell 9
 simp at c
 clear h
 go_enter Tryz.func78, Tryz.ntmps78
 go_wp2_with fail
 go_loop [3] (fun v => v = .int .i64 0) (fun _ => 0)
 case atStart => exact rfl
 case round =>
  subst hrel
  go_wp2_with fail
  go_ret
  exact ⟨rfl, rfl⟩

theorem fill_Coat (b m : Nat) (lims : Value) (w : World) (h : ZJ w b Z2 (Z6 m lims)) :
  Calls Tryz.prog 47 #[.pointer (some ⟨b, 0, none⟩)] w fun e w' => e = .returned (.tuple #[]) /\ w = w' := by
 have c := h.cell 10
 simp at c
 clear h
 go_enter Tryz.func47, Tryz.ntmps47
 go_wp2_with fail
 go_loop [2] (fun v => v = .int .i64 0) (fun _ => 0)
 case atStart => exact rfl
 case round =>
  subst hrel
  go_wp2_with fail
  exact bodyPost_end (v := .tuple #[]) (by simp [results, Tryz.results47, go_sem]) rfl ⟨rfl, rfl⟩

theorem grow_Coat (b m : Nat) (lims : Value) (w : World) (h : ZJ w b Z2 (Z6 m lims)) :
  Calls Tryz.prog 63 #[.pointer (some ⟨b, 0, none⟩)] w fun e w' => e = .returned (.tuple #[]) /\ w = w' := by
 have c := h.cell 10
 simp at c
 clear h
 go_enter Tryz.func63, Tryz.ntmps63
 go_wp2_with fail
 go_loop [2] (fun v => v = .int .i64 0) (fun _ => 0)
 case atStart => exact rfl
 case round =>
  subst hrel
  go_wp2_with fail
  exact bodyPost_end (v := .tuple #[]) (by simp [results, Tryz.results63, go_sem]) rfl ⟨rfl, rfl⟩

theorem look_Coat (b m : Nat) (lims : Value) (w : World) (h : ZJ w b Z2 (Z6 m lims)) :
  Calls Tryz.prog 79 #[.pointer (some ⟨b, 0, none⟩)] w fun e w' => e = .returned (.bool true) /\ w = w' := by
 have c := h.cell 10
 simp at c
 clear h
 go_enter Tryz.func79, Tryz.ntmps79
 go_wp2_with fail
 go_loop [3] (fun v => v = .int .i64 0) (fun _ => 0)
 case atStart => exact rfl
 case round =>
  subst hrel
  go_wp2_with fail
  go_ret
  exact ⟨rfl, rfl⟩

theorem fill_Disc (b m : Nat) (lims : Value) (w : World) (h : ZJ w b Z2 (Z6 m lims)) :
  Calls Tryz.prog 48 #[.pointer (some ⟨b, 0, none⟩)] w fun e w' => e = .returned (.tuple #[]) /\ w = w' := by
 have c := h.cell 11
 simp at c
 clear h
 go_enter Tryz.func48, Tryz.ntmps48
 go_wp2_with fail
 go_loop [2] (fun v => v = .int .i64 0) (fun _ => 0)
 case atStart => exact rfl
 case round =>
  subst hrel
  go_wp2_with fail
  exact bodyPost_end (v := .tuple #[]) (by simp [results, Tryz.results48, go_sem]) rfl ⟨rfl, rfl⟩

theorem grow_Disc (b m : Nat) (lims : Value) (w : World) (h : ZJ w b Z2 (Z6 m lims)) :
  Calls Tryz.prog 64 #[.pointer (some ⟨b, 0, none⟩)] w fun e w' => e = .returned (.tuple #[]) /\ w = w' := by
 have c := h.cell 11
 simp at c
 clear h
 go_enter Tryz.func64, Tryz.ntmps64
 go_wp2_with fail
 go_loop [2] (fun v => v = .int .i64 0) (fun _ => 0)
 case atStart => exact rfl
 case round =>
  subst hrel
  go_wp2_with fail
  exact bodyPost_end (v := .tuple #[]) (by simp [results, Tryz.results64, go_sem]) rfl ⟨rfl, rfl⟩

theorem look_Disc (b m : Nat) (lims : Value) (w : World) (h : ZJ w b Z2 (Z6 m lims)) :
  Calls Tryz.prog 80 #[.pointer (some ⟨b, 0, none⟩)] w fun e w' => e = .returned (.bool true) /\ w = w' := by
 have c := h.cell 11
 simp at c
 clear h
 go_enter Tryz.func80, Tryz.ntmps80
 go_wp2_with fail
 go_loop [3] (fun v => v = .int .i64 0) (fun _ => 0)
 case atStart => exact rfl
 case round =>
  subst hrel
  go_wp2_with fail
  go_ret
  exact ⟨rfl, rfl⟩

theorem fill_Part (b m : Nat) (lims : Value) (w : World) (h : ZJ w b Z2 (Z6 m lims)) :
  Calls Tryz.prog 49 #[.pointer (some ⟨b, 0, none⟩)] w fun e w' => e = .returned (.tuple #[]) /\ w = w' := by
 have c := h.cell 12
 simp at c
 clear h
 go_enter Tryz.func49, Tryz.ntmps49
 go_wp2_with fail
 go_loop [2] (fun v => v = .int .i64 0) (fun _ => 0)
 case atStart => exact rfl
 case round =>
  subst hrel
  go_wp2_with fail
  exact bodyPost_end (v := .tuple #[]) (by simp [results, Tryz.results49, go_sem]) rfl ⟨rfl, rfl⟩

theorem grow_Part (b m : Nat) (lims : Value) (w : World) (h : ZJ w b Z2 (Z6 m lims)) :
  Calls Tryz.prog 65 #[.pointer (some ⟨b, 0, none⟩)] w fun e w' => e = .returned (.tuple #[]) /\ w = w' := by
 have c := h.cell 12
 simp at c
 clear h
 go_enter Tryz.func65, Tryz.ntmps65
 go_wp2_with fail
 go_loop [2] (fun v => v = .int .i64 0) (fun _ => 0)
 case atStart => exact rfl
 case round =>
  subst hrel
  go_wp2_with fail
  exact bodyPost_end (v := .tuple #[]) (by simp [results, Tryz.results65, go_sem]) rfl ⟨rfl, rfl⟩

theorem look_Part (b m : Nat) (lims : Value) (w : World) (h : ZJ w b Z2 (Z6 m lims)) :
  Calls Tryz.prog 81 #[.pointer (some ⟨b, 0, none⟩)] w fun e w' => e = .returned (.bool true) /\ w = w' := by
 have c := h.cell 12
 simp at c
 clear h
 go_enter Tryz.func81, Tryz.ntmps81
 go_wp2_with fail
 go_loop [3] (fun v => v = .int .i64 0) (fun _ => 0)
 case atStart => exact rfl
 case round =>
  subst hrel
  go_wp2_with fail
  go_ret
  exact ⟨rfl, rfl⟩

theorem fill_Def (b m : Nat) (lims : Value) (w : World) (h : ZJ w b Z2 (Z6 m lims)) :
  Calls Tryz.prog 50 #[.pointer (some ⟨b, 0, none⟩)] w fun e w' => e = .returned (.tuple #[]) /\ w = w' := by
 have c := h.cell 13
 simp at c
 clear h
 go_enter Tryz.func50, Tryz.ntmps50
 go_wp2_with fail
 go_loop [2] (fun v => v = .int .i64 0) (fun _ => 0)
 case atStart => exact rfl
 case round =>
  subst hrel
  go_wp2_with fail
  exact bodyPost_end (v := .tuple #[]) (by simp [results, Tryz.results50, go_sem]) rfl ⟨rfl, rfl⟩

theorem grow_Def (b m : Nat) (lims : Value) (w : World) (h : ZJ w b Z2 (Z6 m lims)) :
  Calls Tryz.prog 66 #[.pointer (some ⟨b, 0, none⟩)] w fun e w' => e = .returned (.tuple #[]) /\ w = w' := by
 have c := h.cell 13
 simp at c
 clear h
 go_enter Tryz.func66, Tryz.ntmps66
 go_wp2_with fail
 go_loop [2] (fun v => v = .int .i64 0) (fun _ => 0)
 case atStart => exact rfl
 case round =>
  subst hrel
  go_wp2_with fail
  exact bodyPost_end (v := .tuple #[]) (by simp [results, Tryz.results66, go_sem]) rfl ⟨rfl, rfl⟩

theorem look_Def (b m : Nat) (lims : Value) (w : World) (h : ZJ w b Z2 (Z6 m lims)) :
  Calls Tryz.prog 82 #[.pointer (some ⟨b, 0, none⟩)] w fun e w' => e = .returned (.bool true) /\ w = w' := by
 have c := h.cell 13
 simp at c
 clear h
 go_enter Tryz.func82, Tryz.ntmps82
 go_wp2_with fail
 go_loop [3] (fun v => v = .int .i64 0) (fun _ => 0)
 case atStart => exact rfl
 case round =>
  subst hrel
  go_wp2_with fail
  go_ret
  exact ⟨rfl, rfl⟩

theorem fill_Item (b m : Nat) (lims : Value) (w : World) (h : ZJ w b Z2 (Z6 m lims)) :
  Calls Tryz.prog 51 #[.pointer (some ⟨b, 0, none⟩)] w fun e w' => e = .returned (.tuple #[]) /\ w = w' := by
 have c := h.cell 14
 simp at c
 clear h
 go_enter Tryz.func51, Tryz.ntmps51
 go_wp2_with fail
 go_loop [2] (fun v => v = .int .i64 0) (fun _ => 0)
 case atStart => exact rfl
 case round =>
  subst hrel
  go_wp2_with fail
  exact bodyPost_end (v := .tuple #[]) (by simp [results, Tryz.results51, go_sem]) rfl ⟨rfl, rfl⟩

theorem grow_Item (b m : Nat) (lims : Value) (w : World) (h : ZJ w b Z2 (Z6 m lims)) :
  Calls Tryz.prog 67 #[.pointer (some ⟨b, 0, none⟩)] w fun e w' => e = .returned (.tuple #[]) /\ w = w' := by
 have c := h.cell 14
 simp at c
 clear h
 go_enter Tryz.func67, Tryz.ntmps67
 go_wp2_with fail
 go_loop [2] (fun v => v = .int .i64 0) (fun _ => 0)
 case atStart => exact rfl
 case round =>
  subst hrel
  go_wp2_with fail
  exact bodyPost_end (v := .tuple #[]) (by simp [results, Tryz.results67, go_sem]) rfl ⟨rfl, rfl⟩

theorem look_Item (b m : Nat) (lims : Value) (w : World) (h : ZJ w b Z2 (Z6 m lims)) :
  Calls Tryz.prog 83 #[.pointer (some ⟨b, 0, none⟩)] w fun e w' => e = .returned (.bool true) /\ w = w' := by
 have c := h.cell 14
 simp at c
 clear h
 go_enter Tryz.func83, Tryz.ntmps83
 go_wp2_with fail
 go_loop [3] (fun v => v = .int .i64 0) (fun _ => 0)
 case atStart => exact rfl
 case round =>
  subst hrel
  go_wp2_with fail
  go_ret
  exact ⟨rfl, rfl⟩

theorem fill_Act (b m : Nat) (lims : Value) (w : World) (h : ZJ w b Z2 (Z6 m lims)) :
  Calls Tryz.prog 52 #[.pointer (some ⟨b, 0, none⟩)] w fun e w' => e = .returned (.tuple #[]) /\ w = w' := by
 have c := h.cell 15
 simp at c
 clear h
 go_enter Tryz.func52, Tryz.ntmps52
 go_wp2_with fail
 go_loop [2] (fun v => v = .int .i64 0) (fun _ => 0)
 case atStart => exact rfl
 case round =>
  subst hrel
  go_wp2_with fail
  exact bodyPost_end (v := .tuple #[]) (by simp [results, Tryz.results52, go_sem]) rfl ⟨rfl, rfl⟩

theorem grow_Act (b m : Nat) (lims : Value) (w : World) (h : ZJ w b Z2 (Z6 m lims)) :
  Calls Tryz.prog 68 #[.pointer (some ⟨b, 0, none⟩)] w fun e w' => e = .returned (.tuple #[]) /\ w = w' := by
 have c := h.cell 15
 simp at c
 clear h
 go_enter Tryz.func68, Tryz.ntmps68
 go_wp2_with fail
 go_loop [2] (fun v => v = .int .i64 0) (fun _ => 0)
 case atStart => exact rfl
 case round =>
  subst hrel
  go_wp2_with fail
  exact bodyPost_end (v := .tuple #[]) (by simp [results, Tryz.results68, go_sem]) rfl ⟨rfl, rfl⟩

theorem look_Act (b m : Nat) (lims : Value) (w : World) (h : ZJ w b Z2 (Z6 m lims)) :
  Calls Tryz.prog 84 #[.pointer (some ⟨b, 0, none⟩)] w fun e w' => e = .returned (.bool true) /\ w = w' := by
 have c := h.cell 15
 simp at c
 clear h
 go_enter Tryz.func84, Tryz.ntmps84
 go_wp2_with fail
 go_loop [3] (fun v => v = .int .i64 0) (fun _ => 0)
 case atStart => exact rfl
 case round =>
  subst hrel
  go_wp2_with fail
  go_ret
  exact ⟨rfl, rfl⟩

theorem fill_Reply (b m : Nat) (lims : Value) (w : World) (h : ZJ w b Z2 (Z6 m lims)) :
  Calls Tryz.prog 53 #[.pointer (some ⟨b, 0, none⟩)] w fun e w' => e = .returned (.tuple #[]) /\ w = w' := by
 have c := h.cell 16
 simp at c
 clear h
 go_enter Tryz.func53, Tryz.ntmps53
 go_wp2_with fail
 go_loop [2] (fun v => v = .int .i64 0) (fun _ => 0)
 case atStart => exact rfl
 case round =>
  subst hrel
  go_wp2_with fail
  exact bodyPost_end (v := .tuple #[]) (by simp [results, Tryz.results53, go_sem]) rfl ⟨rfl, rfl⟩

theorem grow_Reply (b m : Nat) (lims : Value) (w : World) (h : ZJ w b Z2 (Z6 m lims)) :
  Calls Tryz.prog 69 #[.pointer (some ⟨b, 0, none⟩)] w fun e w' => e = .returned (.tuple #[]) /\ w = w' := by
 have c := h.cell 16
 simp at c
 clear h
 go_enter Tryz.func69, Tryz.ntmps69
 go_wp2_with fail
 go_loop [2] (fun v => v = .int .i64 0) (fun _ => 0)
 case atStart => exact rfl
 case round =>
  subst hrel
  go_wp2_with fail
  exact bodyPost_end (v := .tuple #[]) (by simp [results, Tryz.results69, go_sem]) rfl ⟨rfl, rfl⟩

theorem look_Reply (b m : Nat) (lims : Value) (w : World) (h : ZJ w b Z2 (Z6 m lims)) :
  Calls Tryz.prog 85 #[.pointer (some ⟨b, 0, none⟩)] w fun e w' => e = .returned (.bool true) /\ w = w' := by
 have c := h.cell 16
 simp at c
 clear h
 go_enter Tryz.func85, Tryz.ntmps85
 go_wp2_with fail
 go_loop [3] (fun v => v = .int .i64 0) (fun _ => 0)
 case atStart => exact rfl
 case round =>
  subst hrel
  go_wp2_with fail
  go_ret
  exact ⟨rfl, rfl⟩

theorem mark_limb (j : Nat) (hj : j <= 100000) (w : World) :
  Calls Tryz.prog 122 #[.int .i64 ((j : Int) + 1)] w fun e w' => e = .returned (YI j) /\ w = w' := by
 go_enter Tryz.func122, Tryz.ntmps122
 go_wp2
 go_ret
 refine ⟨congrArg (fun z : Int => Ending.returned (Value.int .u32 z)) ?_, rfl⟩
 omega

theorem own_blk {w : World} {base : Nat} {e : TypeId} {A : Option Addr} {n c : Nat} {xs : List Value} (h : w.ownsRow base e 1 (.slice A n c) n xs) (hn : 0 < n) : ∃ g cur, A = some ⟨g, 0, none⟩ /\ ZJ w g e cur /\ n <= cur.size /\ cur.toList.take n = xs := by
 rcases h.2 with ⟨h1, h2⟩ | ⟨g, cap, cur, h1, h2, h3, h4, h5, h6, h7⟩
 . omega
 . injection h1 with a1 a2 a3
   exact ⟨g, cur, a1, h3, by omega, by rw [Nat.mul_one] at h7; exact h7⟩
theorem replicate_set {n k : Nat} {v : Value} {Y : List Value} (hl : Y.length = n) (hk : k < n) (h : Y.take k = List.replicate k v) : (Y.set k v).take (k + 1) = List.replicate (k + 1) v := by
 rw [List.take_succ_eq_append_getElem (by simp; omega), List.take_set_of_le (Nat.le_refl _), h]
 simp [List.replicate_succ']

theorem fill_limb (b g0 cap m B0 : Nat) (l : Nat -> Value) (n : Nat -> Nat) (X : Nat -> List Value) (w0 w : World) (p : Plain b g0 m B0 l n) (h : Xk w0 w b g0 cap m B0 l (fun _ => ZG) n X) :
  Calls Tryz.prog 38 #[.pointer (some ⟨b, 0, none⟩)] w fun e w' => e = .returned (.tuple #[]) /\ Xk w0 w' b g0 cap m B0 l (fun _ => ZG) n (fun j => List.replicate (n j) (YI j)) := by
 have hm := p.hm
 have HP := Hd p
 have H0 := Hd (⟨X, h, fun j hj _ => absurd hj (Nat.not_lt_zero j)⟩ : ∃ Y, Xk w0 w b g0 cap m B0 l (fun _ => ZG) n Y /\ ∀ j, j < 0 -> j < m -> Y j = List.replicate (n j) (YI j))
 clear p h
 go_enter Tryz.func38, Tryz.ntmps38
 go_wp2_with fail
 go_loopw [2] (fun s wr => ∃ i : Nat, s = .int .i64 i /\ i <= m /\ Hid (∃ Y, Xk w0 wr b g0 cap m B0 l (fun _ => ZG) n Y /\ ∀ j, j < i -> j < m -> Y j = List.replicate (n j) (YI j))) (fun s _ => m - (intOf s).toNat)
 case atStart => exact ⟨0, rfl, Nat.zero_le _, H0⟩
 case round =>
  obtain ⟨i, rfl, hi, HR⟩ := hrel
  clear H0
  obtain ⟨Y, hsh, hY⟩ := HR.out
  have hbk := hsh.book
  have c1 := hbk.cell 1
  simp at c1
  have HS := Hd hsh
  have HY := Hd hY
  clear HR hsh hY hbk
  by_cases hlt : i < m
  . have a0 : (0 : Int) <= (i : Int) := by omega
    have a1 : (i : Int) < (m : Int) := by omega
    obtain ⟨d0, d1, d2, -⟩ := HS.out.arr.at_ hlt
    obtain ⟨Ai, ci, hl⟩ := Xh (by omega) (HS.out.rows i hlt)
    have HL := Hd hl
    rw [hl] at d0
    clear hl
    go_wp2_with fail
    have hcopy := ZJ.new wr Xf #[.slice Ai (n i) ci, ZG, .int .i64 ((i : Int) + 1)]
    have hNh := HS.out.arr.lt
    have hsh1 := HS.out.alloc HP.out (.cells #[.slice Ai (n i) ci, ZG, .int .i64 ((i : Int) + 1)] Xf)
    obtain ⟨W, E⟩ : ∃ W, W = wr.alloc (.cells #[.slice Ai (n i) ci, ZG, .int .i64 ((i : Int) + 1)] Xf) := ⟨_, rfl⟩
    rw [<- E] at hcopy hsh1 ⊢
    clear E c1 d0 d1 d2
    have hni := HP.out.hn i hlt
    have H1 := Hd (⟨Y, hsh1, HY.out, rfl, hcopy⟩ : ∃ Z, Xk w0 W b g0 cap m B0 l (fun _ => ZG) n Z /\ (∀ j, j < i -> j < m -> Z j = List.replicate (n j) (YI j)) /\ (Z i).take 0 = List.replicate 0 (YI i) /\ ZJ W wr.heap.size Xf #[.slice Ai (n i) ci, ZG, .int .i64 ((i : Int) + 1)])
    obtain ⟨ni, hnn⟩ : ∃ ni, ni = n i := ⟨_, rfl⟩
    obtain ⟨Nh, hNN⟩ : ∃ Nh, Nh = wr.heap.size := ⟨_, rfl⟩
    rw [<- hnn] at HL H1 hni ⊢
    rw [<- hNN] at H1 hNh ⊢
    have HNN := Hd hnn
    clear hcopy hsh1 hnn hNN HS HY
    go_loopw [4] (fun s wq => ∃ k : Nat, s = .int .i64 k /\ k <= ni /\ Hid (∃ Z, Xk w0 wq b g0 cap m B0 l (fun _ => ZG) n Z /\ (∀ j, j < i -> j < m -> Z j = List.replicate (n j) (YI j)) /\ (Z i).take k = List.replicate k (YI i) /\ ZJ wq Nh Xf #[.slice Ai ni ci, ZG, .int .i64 ((i : Int) + 1)])) (fun s _ => ni - (intOf s).toNat)
    case atStart => exact ⟨0, rfl, Nat.zero_le _, H1⟩
    case round =>
     obtain ⟨k, rfl, hk, HR⟩ := hrel
     clear H1
     obtain ⟨Z, hz1, hz2, hz3, hz4⟩ := HR.out
     have e0 := hz4.cell 0
     have e2 := hz4.cell 2
     have hlt4 := hz4.lt
     simp at e0 e2
     have HZ1 := Hd hz1
     have HZ2 := Hd hz2
     have HZ3 := Hd hz3
     have HZ4 := Hd hz4
     clear HR hz1 hz2 hz3 hz4
     by_cases hlk : k < ni
     . have q0 : (0 : Int) <= (k : Int) := by omega
       have q1 : (k : Int) < (ni : Int) := by omega
       obtain ⟨g, cur, rfl, hblk, hcs, -⟩ := own_blk (by have := HZ1.out.rows i hlt; rw [HL.out, <- HNN.out] at this; exact this) (by omega)
       have S : ∀ V, Below wr.heap.size wr V -> ∃ Z, Xk w0 (V.setCell ⟨g, k, none⟩ (YI i)) b g0 cap m B0 l (fun _ => ZG) n Z /\ (∀ j, j < i -> j < m -> Z j = List.replicate (n j) (YI j)) /\ (Z i).take (k + 1) = List.replicate (k + 1) (YI i) /\ ZJ (V.setCell ⟨g, k, none⟩ (YI i)) Nh Xf #[.slice (some ⟨g, 0, none⟩) ni ci, ZG, .int .i64 ((i : Int) + 1)] := fun V hV => by
         have hl2 : l i = .slice (some ⟨g, 0, none⟩) (n i) ci := by rw [HL.out, HNN.out]
         have hne : Nh ≠ g := fun e => Xb (HZ1.out.rows i hlt) HZ4.out (by decide) (by rw [hl2, e]; rfl)
         refine ⟨_, (HZ1.out.below HP.out hV).write HP.out hlt hl2 (by rw [<- HNN.out]; exact hlk) (YI i), fun j hj hjm => ?_, ?_, (HZ4.out.below hV HZ4.out.lt).far (p := ⟨g, k, none⟩) hne _⟩
         . rw [updL_ne _ _ (by omega)]; exact HZ2.out j hj hjm
         . rw [updL_same]
           exact replicate_set (n := ni) (by rw [(HZ1.out.rows i hlt).1, HNN.out]; omega) hlk HZ3.out
       have HS := Hd S
       have HK := Hd hblk
       clear S hblk
       go_wp2_with fail
       clear e0 e2
       refine YS [.val (.pointer (some ⟨Nh, 0, none⟩)), .val (.slice (some ⟨g, 0, none⟩) ni ci), .val (.int .i64 k), .val (.pointer (some ⟨Nh, 2, none⟩)), .val (.int .i64 ((i : Int) + 1)), .val (YI i), .val (.pointer (some ⟨g, k, none⟩)), .step] 0 1 wr
         (fun _ _ => True) (fun _ V => ∃ V0, Below wr.heap.size wr V0 /\ V = V0.setCell ⟨g, k, none⟩ (YI i))
         _ Zf ?_ ?_ ?_ ?_ ?_ ?_ ?_ ?_ ?_ rfl (fun _ _ _ _ _ => trivial) (Below.refl _ _) trivial ?_ ?_ ?_
       iterate 9 kernel_rfl
       . simp [XD, ZO, ZF, Zn, Yc]
         repeat' apply And.intro
         all_goals
           intro V hV
           have hx := HZ4.out.below hV HZ4.out.lt
           have e0 := hx.cell 0
           have e2 := hx.cell 2
           simp at e0 e2
           clear hV hx
           go_simp
           first | exact Below.refl _ _ | ((with_reducible refine (mark_limb i (by omega) _).mono ?_); rintro e w' ⟨rfl, rfl⟩; exact ⟨rfl, Below.refl _ _⟩)
       . simp [Y1, ZO, ZF, Zn, Yc, Yp]
         intro V hV
         have hx := HK.out.below hV HK.out.lt
         have c1 := hx.cell k
         rw [Array.getElem?_eq_getElem (by omega)] at c1
         generalize cur[k] = old at c1
         have f1 := hx.frozen k
         unfold YI
         go_simp
         exact ⟨V, hV, rfl⟩
       . intro us V hus hF
         simp only [show ¬ (1 <= 0) by decide, if_false] at hF
         obtain ⟨V0, hV0, rfl⟩ := hF
         obtain ⟨u0, rfl⟩ : ∃ u0, us = [u0] := by
           match us, hus with
           | [u0], _ => exact ⟨u0, rfl⟩
         simp [ZO, ZF, Zn, Yc, Yp]
         have S := Hd (HS.out V0 hV0)
         clear hV0 HS HK
         go_wp2_with fail
         go_roundw
         case rel => exact ⟨k + 1, by go_num, hlk, S⟩
         case measure => simp [intOf]; omega
     . obtain rfl : k = ni := by omega
       have S := Hd (⟨Z, HZ1.out, fun j hj hjm => by
         rcases (by omega : j < i ∨ j = i) with hj | rfl
         . exact HZ2.out j hj hjm
         . have e := HZ3.out
           rw [List.take_of_length_le (by rw [(HZ1.out.rows j hlt).1, <- HNN.out]; omega)] at e
           rw [e, HNN.out]⟩ : ∃ Y, Xk w0 wr b g0 cap m B0 l (fun _ => ZG) n Y /\ ∀ j, j < i + 1 -> j < m -> Y j = List.replicate (n j) (YI j))
       clear HZ1 HZ2 HZ3 HZ4
       go_wp2_with fail
       go_roundw
       case rel => exact ⟨i + 1, by go_num, hlt, S⟩
       case measure => simp [intOf]; omega
  . obtain rfl : i = m := by omega
    have HF := Hd (show Xk w0 wr b g0 cap i B0 l (fun _ => ZG) n (fun j => List.replicate (n j) (YI j)) from
     ⟨HS.out.book, HS.out.arr, fun j hj => by have := HS.out.rows j hj; rwa [HY.out j hj hj] at this, HS.out.low⟩)
    clear HP HS HY
    go_wp2_with fail
    exact bodyPost_end (v := .tuple #[]) (by simp [results, Tryz.results38, go_sem]) rfl ⟨rfl, HF.out⟩

structure Grown (w0 w : World) (b g0 cap m B0 : Nat) (l long : Nat -> Value) (n : Nat -> Nat) (i : Nat) : Prop where
 shelf : Xk w0 w b g0 cap m B0 l long n (fun j => List.replicate (n j) (YI j))
 longs : ∀ j, j < i -> j < m -> w.ownsRow B0 XI 1 (long j) (n j + 70) (List.replicate (n j + 70) (YI j)) /\ ∀ g, (long j).ownBlock = some g -> (l j).ownBlock = some g ∨ (g0 < g /\ ∀ j', j' < m -> ∀ x, (l j').ownBlock = some x -> x < g)
 rest : ∀ j, i <= j -> long j = ZG
structure Jm (w0 w : World) (b g0 cap m B0 : Nat) (l long : Nat -> Value) (n : Nat -> Nat) (i Nh k : Nat) (v : Value) : Prop where
 grown : Grown w0 w b g0 cap m B0 l long n i
 copy : ZJ w Nh Xf #[l i, ZG, .int .i64 ((i : Int) + 1)]
 row : w.ownsRow B0 XI 1 v (n i + k) (List.replicate (n i + k) (YI i))
 place : (∃ A c, l i = .slice A (n i) c /\ v = .slice A (n i + k) c) ∨ ∃ g, v.ownBlock = some g /\ Nh < g
 under : ∀ j, j < i -> j < m -> ∀ g, (long j).ownBlock = some g -> g < Nh
 old : ∀ j, j < m -> ∀ g, (l j).ownBlock = some g -> g < Nh
section
variable {w0 w w' : World} {b g0 cap m B0 : Nat} {l long : Nat -> Value} {n : Nat -> Nat} {i Nh k : Nat} {v v' : Value}
theorem Grown.below (h : Grown w0 w b g0 cap m B0 l long n i) (p : Plain b g0 m B0 l n) (hb : Below w.heap.size w w') : Grown w0 w' b g0 cap m B0 l long n i :=
 ⟨h.shelf.below p hb, fun j hj hjm => ⟨Zt (h.longs j hj hjm).1 hb, (h.longs j hj hjm).2⟩, h.rest⟩
theorem Jm.below (h : Jm w0 w b g0 cap m B0 l long n i Nh k v) (p : Plain b g0 m B0 l n) (hb : Below w.heap.size w w') : Jm w0 w' b g0 cap m B0 l long n i Nh k v :=
 ⟨h.grown.below p hb, h.copy.below hb h.copy.lt, Zt h.row hb, h.place, h.under, h.old⟩
theorem ZJ.kept {g : Nat} {t : TypeId} {cs : Array Value} (h : ZJ w g t cs) {row : Option Nat} (hg : w.grownBy w' row) (hn : some g ≠ row) : ZJ w' g t cs := (hg.block g h.lt hn).trans h
theorem Jm.step (h : Jm w0 w b g0 cap m B0 l long n i Nh k v) (p : Plain b g0 m B0 l n) (hi : i < m) (hNh : g0 < Nh) (ho : w'.ownsRow B0 XI 1 v' (n i + k + 1) (List.replicate (n i + k) (YI i) ++ [YI i])) (hg : Grew w v (n i + k) v' w') :
   Jm w0 w' b g0 cap m B0 l long n i Nh (k + 1) v' := by
 have hrow : w'.ownsRow B0 XI 1 v' (n i + (k + 1)) (List.replicate (n i + (k + 1)) (YI i)) := by
   rw [<- List.replicate_succ'] at ho
   exact ho
 have hgb := p.hg
 have hBb := p.hb
 have hb0 := h.grown.shelf.book.lt
 rcases hg with ⟨g, c, rfl, rfl, hgr⟩ | ⟨hat, hgr⟩
 . -- in place
   have hBg : B0 <= g := (h.row.lt g rfl).1
   rcases h.place with ⟨A, c', hl, hv⟩ | ⟨g', hv, hlt⟩
   . injection hv with a1 a2 a3
     subst a1 a3
     have hgu := p.under i hi g (by rw [hl]; rfl)
     have hgo := h.old i hi g (by rw [hl]; rfl)
     refine ⟨⟨⟨h.grown.shelf.book.kept hgr (fun e => by injection e with e; exact hgu.1 e.symm), h.grown.shelf.arr.kept hgr (fun e => by injection e with e; exact hgu.2 e.symm), fun j hj => ?_, h.grown.shelf.low.grown hgr (by omega) (fun x hx => by injection hx with hx; omega)⟩, fun j hj hjm => ⟨?_, (h.grown.longs j hj hjm).2⟩, h.grown.rest⟩, h.copy.kept hgr (fun e => by injection e with e; omega), hrow, .inl ⟨_, c, hl, rfl⟩, h.under, h.old⟩
     . by_cases e : j = i
       . subst e
         have h1 := own_cut hrow (k := n j) (by omega)
         rw [hl]
         rwa [List.take_replicate, Nat.min_eq_left (by omega)] at h1
       . refine (h.grown.shelf.rows j hj).kept hgr ?_
         rcases hv : (l j).ownBlock with _ | x
         . exact .inl rfl
         . refine .inr fun e2 => ?_
           exact p.apart i j hi hj (Ne.symm e) g (by rw [hl]; rfl) (hv.trans e2)
     . refine (h.grown.longs j hj hjm).1.kept hgr ?_
       rcases hv : (long j).ownBlock with _ | x
       . exact .inl rfl
       . refine .inr fun e2 => ?_
         injection e2 with e2
         subst e2
         rcases (h.grown.longs j hj hjm).2 _ hv with h2 | h2
         . exact p.apart i j hi hjm (by omega) _ (by rw [hl]; rfl) h2
         . exact absurd (h2.2 i hi _ (by rw [hl]; rfl)) (Nat.lt_irrefl _)
   . injection hv with hv
     have hv : g = g' := hv
     subst hv
     have hne : ∀ x : Nat, x <= Nh -> some x ≠ some g := fun x hx e => by injection e with e; omega
     refine ⟨⟨⟨h.grown.shelf.book.kept hgr (hne b (by omega)), h.grown.shelf.arr.kept hgr (hne g0 (by omega)), fun j hj => ?_, h.grown.shelf.low.grown hgr (by omega) (fun x hx => by injection hx with hx; omega)⟩, fun j hj hjm => ⟨?_, (h.grown.longs j hj hjm).2⟩, h.grown.rest⟩, h.copy.kept hgr (hne Nh (Nat.le_refl _)), hrow, .inr ⟨g, rfl, hlt⟩, h.under, h.old⟩
     . refine (h.grown.shelf.rows j hj).kept hgr ?_
       rcases hv : (l j).ownBlock with _ | x
       . exact .inl rfl
       . refine .inr fun e2 => ?_
         have := h.old j hj x hv
         injection e2 with e2
         omega
     . refine (h.grown.longs j hj hjm).1.kept hgr ?_
       rcases hv : (long j).ownBlock with _ | x
       . exact .inl rfl
       . refine .inr fun e2 => ?_
         have := h.under j hj hjm x hv
         injection e2 with e2
         omega
 . -- moved
   have hkeep : ∀ {e : TypeId} {v : Value} {k : Nat} {xs : List Value}, w.ownsRow B0 e 1 v k xs -> w'.ownsRow B0 e 1 v k xs := fun h1 => h1.kept hgr (by
     rename_i v _ _
     rcases hv : v.ownBlock with _ | x
     . exact .inl rfl
     . exact .inr (by simp))
   refine ⟨⟨⟨h.grown.shelf.book.kept hgr (by simp), h.grown.shelf.arr.kept hgr (by simp), fun j hj => hkeep (h.grown.shelf.rows j hj), h.grown.shelf.low.grown hgr (by omega) (fun x hx => by cases hx)⟩, fun j hj hjm => ⟨hkeep (h.grown.longs j hj hjm).1, (h.grown.longs j hj hjm).2⟩, h.grown.rest⟩, h.copy.kept hgr (by simp), hrow, .inr ⟨_, hat, h.copy.lt⟩, h.under, h.old⟩
theorem Jm.done (h : Jm w0 w b g0 cap m B0 l long n i Nh 70 v) (p : Plain b g0 m B0 l n) (hi : i < m) (hNh : g0 < Nh) :
   Grown w0 (w.setCell ⟨g0, i * 3 + 1, none⟩ v) b g0 cap m B0 l (Xv long i v) n (i + 1) := by
 have far : ∀ {u : Value} {k : Nat} {xs : List Value}, w.ownsRow B0 XI 1 u k xs -> (∀ g, u.ownBlock = some g -> g ≠ g0) -> (w.setCell ⟨g0, i * 3 + 1, none⟩ v).ownsRow B0 XI 1 u k xs := fun h1 h2 =>
   ownsRow_setCell_other h1 (fun e => h2 g0 e rfl) v
 have hplace : ∀ g, v.ownBlock = some g -> (l i).ownBlock = some g ∨ (g0 < g /\ ∀ j', j' < m -> ∀ x, (l j').ownBlock = some x -> x < g) := fun g hv => by
   rcases h.place with ⟨A, c, hl, rfl⟩ | ⟨g', hv', hlt⟩
   . left; rw [hl]; cases A <;> exact hv
   . rw [hv] at hv'; injection hv' with e; right; exact ⟨by omega, fun j' hj' x hx => by have := h.old j' hj' x hx; omega⟩
 refine ⟨h.grown.shelf.more p hi v, fun j hj hjm => ?_, fun j hj => by rw [Y8 _ _ (by omega)]; exact h.grown.rest j (by omega)⟩
 rcases (by omega : j < i ∨ j = i) with hj | rfl
 . rw [Y8 _ _ (by omega)]
   obtain ⟨h1, h2⟩ := h.grown.longs j hj hjm
   refine ⟨far h1 fun g hg' => (h2 g hg').elim (fun e => (p.under j hjm g e).2) (fun e => by omega), h2⟩
 . rw [XO]
   exact ⟨far h.row fun g hg' => (hplace g hg').elim (fun e => (p.under j hi g e).2) (fun e => by omega), hplace⟩
end

theorem grow_limb (b g0 cap m B0 : Nat) (l : Nat -> Value) (n : Nat -> Nat) (w0 w : World) (p : Plain b g0 m B0 l n) (h : Xk w0 w b g0 cap m B0 l (fun _ => ZG) n (fun j => List.replicate (n j) (YI j))) :
  Calls Tryz.prog 54 #[.pointer (some ⟨b, 0, none⟩)] w fun e w' => e = .returned (.tuple #[]) /\ ∃ long, Grown w0 w' b g0 cap m B0 l long n m := by
 obtain ⟨i0, hi, hz0, hz1, hz2⟩ := info_parts YC
 have hm := p.hm
 have HP := Hd p
 have H0 := Hd (⟨fun _ => ZG, h, fun j hj _ => absurd hj (Nat.not_lt_zero j), fun _ _ => rfl⟩ : ∃ long, Grown w0 w b g0 cap m B0 l long n 0)
 clear p h
 go_enter Tryz.func54, Tryz.ntmps54
 go_wp2_with fail
 go_loopw [2] (fun s wr => ∃ i : Nat, s = .int .i64 i /\ i <= m /\ Hid (∃ long, Grown w0 wr b g0 cap m B0 l long n i)) (fun s _ => m - (intOf s).toNat)
 case atStart => exact ⟨0, rfl, Nat.zero_le _, H0⟩
 case round =>
  obtain ⟨i, rfl, hi', HR⟩ := hrel
  clear H0
  obtain ⟨long, hgr⟩ := HR.out
  have c1 := hgr.shelf.book.cell 1
  simp at c1
  have HS := Hd hgr
  clear HR hgr
  by_cases hlt : i < m
  . have a0 : (0 : Int) <= (i : Int) := by omega
    have a1 : (i : Int) < (m : Int) := by omega
    obtain ⟨d0, d1, d2, -⟩ := HS.out.shelf.arr.at_ hlt
    rw [HS.out.rest i (Nat.le_refl _)] at d1
    obtain ⟨Ai, ci, hl⟩ := Xh (by omega) (HS.out.shelf.rows i hlt)
    have HL := Hd hl
    rw [hl] at d0
    clear hl
    go_wp2_with fail
    have hNh := HS.out.shelf.arr.lt
    have hg1 := HS.out.below HP.out ((Below.refl wr.heap.size wr).alloc (Nat.le_refl _) (.cells #[.slice Ai (n i) ci, ZG, .int .i64 ((i : Int) + 1)] Xf))
    have hcopy := ZJ.new wr Xf #[.slice Ai (n i) ci, ZG, .int .i64 ((i : Int) + 1)]
    have hunder : ∀ j, j < i -> j < m -> ∀ g, (long j).ownBlock = some g -> g < wr.heap.size := fun j hj hjm g hg => ((HS.out.longs j hj hjm).1.lt g hg).2
    have hold : ∀ j, j < m -> ∀ g, (l j).ownBlock = some g -> g < wr.heap.size := fun j hj g hg => ((HS.out.shelf.rows j hj).lt g hg).2
    obtain ⟨W, E⟩ : ∃ W, W = wr.alloc (.cells #[.slice Ai (n i) ci, ZG, .int .i64 ((i : Int) + 1)] Xf) := ⟨_, rfl⟩
    rw [<- E] at hcopy hg1 ⊢
    clear E c1 d0 d1 d2
    have hni := HP.out.hn i hlt
    have H1 := Hd (⟨hg1, by rw [HL.out]; exact hcopy, hg1.shelf.rows i hlt, .inl ⟨Ai, ci, HL.out, HL.out⟩, hunder, hold⟩ : Jm w0 W b g0 cap m B0 l long n i wr.heap.size 0 (l i))
    have e0 := hcopy.cell 0
    have hltc := hcopy.lt
    simp at e0
    rw [HL.out] at H1
    obtain ⟨ni, hnn⟩ : ∃ ni, ni = n i := ⟨_, rfl⟩
    obtain ⟨Nh, hNN⟩ : ∃ Nh, Nh = wr.heap.size := ⟨_, rfl⟩
    rw [<- hnn] at HL H1 hni e0 ⊢
    rw [<- hNN] at H1 hNh e0 hltc ⊢
    have HNN := Hd hnn
    clear hcopy hg1 hnn hNN HS hunder hold
    go_wp2_with fail
    clear e0
    go_loopw [4, 5] (fun v s wq => ∃ k : Nat, s = .int .i64 k /\ k <= 70 /\ Hid (Jm w0 wq b g0 cap m B0 l long n i Nh k v)) (fun _ s _ => 70 - (intOf s).toNat)
    case atStart => exact ⟨0, rfl, Nat.zero_le _, H1⟩
    case round =>
     obtain ⟨k, rfl, hk, HG⟩ := hrel
     clear H1
     have e2 := HG.out.copy.cell 2
     have hlt4 := HG.out.copy.lt
     simp at e2
     by_cases hlk : k < 70
     . have q0 : (0 : Int) <= (k : Int) := by omega
       have q1 : (k : Int) < 70 := by omega
       obtain ⟨mu, hmu⟩ : ∃ mu : Int, YI i = .int .u32 mu := ⟨_, rfl⟩
       have hgg := HG.out.below HP.out ((Below.refl wr.heap.size wr).alloc (Nat.le_refl _) (.cells #[.int .u32 mu] XI))
       have hB0 : B0 <= wr.heap.size := by have := HP.out.hb; have := HP.out.hg; omega
       have hcell := (ZJ.new wr XI #[.int .u32 mu]).cell 0
       have hb2 : n i + k + 1 <= maxLen /\ (n i + k + 1) * 4 <= 140737488355328 := by rw [<- HNN.out]; unfold maxLen; omega
       have HC := Hd hcell
       have HGG := Hd hgg
       have HB := Hd hb2
       have C0 := fun V => mark_limb i (by omega) V
       rw [hmu] at C0
       have C := Hd C0
       have HM := Hd hmu
       clear hcell hgg hb2 C0 hmu
       go_wp2_with (first
        | (go_at_call 122; with_reducible refine (C.out _).mono ?_; rintro e w' ⟨rfl, rfl⟩)
        | (at_builtin; refine wpList_append_one _ rfl (.tmp 28) (.tmp 32) _ rfl B0 XI i0 _ 4 Tryz.underlying22 hi hz0 hz1 hz2 rfl u4 (n i + k) _ rfl HGG.out.row ⟨wr.heap.size, 0, none⟩ 1 (.int .u32 mu) rfl HC.out rfl HB.out.1 HB.out.2 (by simp; omega) ?_; intro v' w' ho hg))
       rw [<- HM.out] at ho
       go_roundw
       case rel => exact ⟨k + 1, by go_num, by omega, Hd (HGG.out.step HP.out hlt hNh ho hg)⟩
       case measure => simp [intOf]; omega
     . obtain rfl : k = 70 := by omega
       have c1 := HG.out.grown.shelf.book.cell 1
       simp at c1
       obtain ⟨d0, d1, d2, f1⟩ := HG.out.grown.shelf.arr.at_ hlt
       have S := Hd (HG.out.done HP.out hlt hNh)
       obtain ⟨Av, cv, rfl⟩ := Xh (by omega) HG.out.row
       clear HG
       go_wp2_with fail
       go_roundw
       case rel => exact ⟨i + 1, by go_num, hlt, Hd ⟨_, S.out⟩⟩
       case measure => simp [intOf]; omega
  . obtain rfl : i = m := by omega
    have HF := Hd (⟨long, HS.out⟩ : ∃ long, Grown w0 wr b g0 cap i B0 l long n i)
    clear HP HS
    go_wp2_with fail
    exact bodyPost_end (v := .tuple #[]) (by simp [results, Tryz.results54, go_sem]) rfl ⟨rfl, HF.out⟩

theorem is_limb (j : Nat) (hj : j <= 100000) (w : World) :
  Calls Tryz.prog 138 #[YI j, .int .i64 ((j : Int) + 1)] w fun e w' => e = .returned (.bool true) /\ w = w' := by
 have e : (((100001 + j : Nat) : Int) == 100000 + ((j : Int) + 1)) = true := by simp; omega
 unfold YI
 go_enter Tryz.func138, Tryz.ntmps138
 go_wp2
 go_ret
 exact ⟨by go_num, rfl⟩
theorem mark_at {w : World} {base : Nat} {A : Option Addr} {n c i : Nat} (h : w.ownsRow base XI 1 (.slice A n c) n (List.replicate n (YI i))) {k : Nat} (hk : k < n) : ∃ g, A = some ⟨g, 0, none⟩ /\ g < w.heap.size /\ w.cell? ⟨g, k, none⟩ = some (YI i) := by
 obtain ⟨g, cur, rfl, hb, hs, ht⟩ := own_blk h (by omega)
 refine ⟨g, rfl, hb.lt, ?_⟩
 rw [hb.cell]
 have e : cur[k]? = (cur.toList.take n)[k]? := by rw [List.getElem?_take, if_pos hk]; simp
 rw [e, ht]
 simp [hk]

theorem look_limb (b g0 cap m B0 : Nat) (l long : Nat -> Value) (n : Nat -> Nat) (w0 w : World) (p : Plain b g0 m B0 l n) (h : Grown w0 w b g0 cap m B0 l long n m) :
  Calls Tryz.prog 70 #[.pointer (some ⟨b, 0, none⟩)] w fun e w' => e = .returned (.bool true) /\ Below w.heap.size w w' := by
 have hm := p.hm
 have HP := Hd p
 have HS := Hd h
 clear p h
 go_enter Tryz.func70, Tryz.ntmps70
 go_wp2_with fail
 go_loopw [3] (fun s wr => ∃ i : Nat, s = .int .i64 i /\ i <= m /\ Hid (Below w.heap.size w wr)) (fun s _ => m - (intOf s).toNat)
 case atStart => exact ⟨0, rfl, Nat.zero_le _, Below.refl _ _⟩
 case round =>
  obtain ⟨i, rfl, hi', HB⟩ := hrel
  have HG := Hd (HS.out.below HP.out HB.out)
  have c1 := HG.out.shelf.book.cell 1
  simp at c1
  by_cases hlt : i < m
  . have a0 : (0 : Int) <= (i : Int) := by omega
    have a1 : (i : Int) < (m : Int) := by omega
    obtain ⟨d0, d1, d2, -⟩ := HG.out.shelf.arr.at_ hlt
    obtain ⟨Ai, ci, hl⟩ := Xh (by omega) (HG.out.shelf.rows i hlt)
    obtain ⟨Ag, cg, hlg⟩ := Xh (by omega) (HG.out.longs i hlt hlt).1
    have r1 := HG.out.shelf.rows i hlt
    have r2 := (HG.out.longs i hlt hlt).1
    rw [hl] at d0 r1
    rw [hlg] at d1 r2
    have hni := HP.out.hn i hlt
    have R1 := Hd r1
    have R2 := Hd r2
    clear hl hlg r1 r2
    go_wp2_with fail
    have hcopy := ZJ.new wr Xf #[.slice Ai (n i) ci, .slice Ag (n i + 70) cg, .int .i64 ((i : Int) + 1)]
    have hb1 := HB.out.alloc HB.out.size (.cells #[.slice Ai (n i) ci, .slice Ag (n i + 70) cg, .int .i64 ((i : Int) + 1)] Xf)
    have q1 := Zt R1.out ((Below.refl wr.heap.size wr).alloc (Nat.le_refl _) (.cells #[.slice Ai (n i) ci, .slice Ag (n i + 70) cg, .int .i64 ((i : Int) + 1)] Xf))
    have q2 := Zt R2.out ((Below.refl wr.heap.size wr).alloc (Nat.le_refl _) (.cells #[.slice Ai (n i) ci, .slice Ag (n i + 70) cg, .int .i64 ((i : Int) + 1)] Xf))
    obtain ⟨W, E⟩ : ∃ W, W = wr.alloc (.cells #[.slice Ai (n i) ci, .slice Ag (n i + 70) cg, .int .i64 ((i : Int) + 1)] Xf) := ⟨_, rfl⟩
    rw [<- E] at hcopy hb1 q1 q2 ⊢
    clear E c1 d0 d1 d2 R1 R2 HG HB
    obtain ⟨ni, hnn⟩ : ∃ ni, ni = n i := ⟨_, rfl⟩
    obtain ⟨Nh, hNN⟩ : ∃ Nh, Nh = wr.heap.size := ⟨_, rfl⟩
    rw [<- hNN] at hcopy ⊢
    rw [<- hnn] at hcopy q1 q2 hni ⊢
    obtain ⟨mu, hmu⟩ : ∃ mu : Int, YI i = .int .u32 mu := ⟨_, rfl⟩
    have C0 := fun V => (is_limb i (by omega) V).mono fun e w' h => (⟨h.1, h.2.symm⟩ : e = .returned (.bool true) /\ w' = V)
    have M1 := fun (V : World) (hV : Below W.heap.size W V) (k : Nat) (hk : k < ni) => mark_at (Zt q1 hV) hk
    have M2 := fun (V : World) (hV : Below W.heap.size W V) (k : Nat) (hk : k < ni + 70) => mark_at (Zt q2 hV) hk
    rw [hmu] at C0
    simp only [hmu] at M1 M2
    have HC := Hd C0
    have H1 := Hd M1
    have H2 := Hd M2
    have HK := Hd hcopy
    have HB1 := Hd hb1
    clear C0 M1 M2 hcopy hb1 q1 q2 hnn hNN hmu
    go_loopw [5] (fun s wq => ∃ k : Nat, s = .int .i64 k /\ k <= ni + 70 /\ Hid (Below W.heap.size W wq)) (fun s _ => ni + 70 - (intOf s).toNat)
    case atStart => exact ⟨0, rfl, Nat.zero_le _, Below.refl _ _⟩
    case round =>
     obtain ⟨k, rfl, hk, HQ⟩ := hrel
     have hc := HK.out.below HQ.out HK.out.lt
     have e0 := hc.cell 0
     have e1 := hc.cell 1
     have e2 := hc.cell 2
     have lt1 := hc.lt
     simp at e0 e1 e2
     clear hc
     by_cases hlk : k < ni + 70
     . have p0 : (0 : Int) <= (k : Int) := by omega
       have p1 : (k : Int) < (ni : Int) + 70 := by omega
       obtain ⟨g, rfl, hgl, hcell⟩ := H2.out wr HQ.out k hlk
       by_cases hk2 : k < ni
       . have p2 : (k : Int) < (ni : Int) := by omega
         obtain ⟨g', rfl, hgl', hcell'⟩ := H1.out wr HQ.out k hk2
         go_wp2_with fail
         go_quiet ((go_at_call 138; exact Calls.quiet_of_same (HC.out _)))
         go_wp2_with fail
         go_roundw
         case rel => exact ⟨k + 1, by go_num, hlk, Hd (ZT HQ.out _)⟩
         case measure => simp [intOf]; omega
       . have p2 : (ni : Int) <= (k : Int) := by omega
         go_wp2_with fail
         go_quiet ((go_at_call 138; exact Calls.quiet_of_same (HC.out _)))
         go_wp2_with fail
         go_roundw
         case rel => exact ⟨k + 1, by go_num, hlk, Hd (ZT HQ.out _)⟩
         case measure => simp [intOf]; omega
     . obtain rfl : k = ni + 70 := by omega
       clear H1 H2 HC
       go_wp2_with fail
       go_roundw
       case rel => exact ⟨i + 1, by go_num, hlt, Hd (Zb HB1.out HQ.out)⟩
       case measure => simp [intOf]; omega
  . obtain rfl : i = m := by omega
    clear HG
    go_wp2_with fail
    go_ret
    exact ⟨rfl, HB.out⟩
end Go.Proofs.YtdonecnhdkjniaaGreatDoor
