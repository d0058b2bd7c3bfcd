/- Apart: lists of limbs that share no memory pass. (Written by wip/book/gennil.py.) -/
import Derived.Test.YtpcdiijmhllejaaGreatDoorNil
import Derived.Test.YtpcdiijmhllejaaGreatDoorLook
namespace Go.Proofs.YtpcdiijmhllejaaGreatDoor
open Go.RowKit

set_option maxRecDepth 100000 in
set_option maxHeartbeats 4000000 in
theorem apart_true (b g0 cap m B0 : Nat) (l : Nat → Value) (n : Nat → Nat) (X : Nat → List Value) (w0 w : World) (p : Plain b g0 m B0 l n) (h : Shelf w0 w b g0 cap m B0 l (fun _ => nilS) n X) :
    Calls Tryz.prog 18 #[.pointer (some ⟨b, 0, none⟩)] w fun e w' => e = .returned (.bool true) ∧ Below B0 w0 w' := by
  have hB0 := Lib.hid (Nat.le_of_lt (Nat.lt_of_le_of_lt p.hb h.book.lt))
  have HP := Lib.hid p
  have C0 := Lib.hid (fill_limb b g0 cap m B0 l n X w0 w p h)
  have C1 := Lib.hid (fun (V : World) (hV : Shelf w0 V b g0 cap m B0 l (fun _ => nilS) n (fun j => List.replicate (n j) (markU j))) => grow_limb b g0 cap m B0 l n w0 V p hV)
  have C2 := Lib.hid (fun (V : World) (long : Nat → Value) (hV : Grown w0 V b g0 cap m B0 l long n m) => look_limb b g0 cap m B0 l long n w0 V p hV)
  clear p h
  go_enter Tryz.func18, Tryz.ntmps18
  go_wp2_with fail
  refine C0.out.mono ?_
  rintro e w1 ⟨rfl, hs1⟩
  have HK := Lib.hid hs1.book
  have HS := Lib.hid hs1
  clear hs1 C0
  go_wp2_with (first
    | (go_at_call 40; with_reducible refine (fill_Number b m _ _ HK.out).mono ?_; rintro e w' ⟨rfl, rfl⟩)
    | (go_at_call 41; with_reducible refine (fill_Float b m _ _ HK.out).mono ?_; rintro e w' ⟨rfl, rfl⟩)
    | (go_at_call 42; with_reducible refine (fill_Complex b m _ _ HK.out).mono ?_; rintro e w' ⟨rfl, rfl⟩)
    | (go_at_call 43; with_reducible refine (fill_Text b m _ _ HK.out).mono ?_; rintro e w' ⟨rfl, rfl⟩)
    | (go_at_call 44; with_reducible refine (fill_Frac b m _ _ HK.out).mono ?_; rintro e w' ⟨rfl, rfl⟩)
    | (go_at_call 45; with_reducible refine (fill_Gauss b m _ _ HK.out).mono ?_; rintro e w' ⟨rfl, rfl⟩)
    | (go_at_call 46; with_reducible refine (fill_Ray b m _ _ HK.out).mono ?_; rintro e w' ⟨rfl, rfl⟩)
    | (go_at_call 47; with_reducible refine (fill_Element b m _ _ HK.out).mono ?_; rintro e w' ⟨rfl, rfl⟩)
    | (go_at_call 48; with_reducible refine (fill_Coat b m _ _ HK.out).mono ?_; rintro e w' ⟨rfl, rfl⟩)
    | (go_at_call 49; with_reducible refine (fill_Disc b m _ _ HK.out).mono ?_; rintro e w' ⟨rfl, rfl⟩)
    | (go_at_call 50; with_reducible refine (fill_Part b m _ _ HK.out).mono ?_; rintro e w' ⟨rfl, rfl⟩)
    | (go_at_call 51; with_reducible refine (fill_Def b m _ _ HK.out).mono ?_; rintro e w' ⟨rfl, rfl⟩)
    | (go_at_call 52; with_reducible refine (fill_Item b m _ _ HK.out).mono ?_; rintro e w' ⟨rfl, rfl⟩)
    | (go_at_call 53; with_reducible refine (fill_Act b m _ _ HK.out).mono ?_; rintro e w' ⟨rfl, rfl⟩)
    | (go_at_call 54; with_reducible refine (fill_Reply b m _ _ HK.out).mono ?_; rintro e w' ⟨rfl, rfl⟩))
  refine (C1.out _ HS.out).mono ?_
  rintro e w2 ⟨rfl, long, hg2⟩
  have HK := Lib.hid hg2.shelf.book
  have HG := Lib.hid hg2
  clear hg2 C1 HS
  go_wp2_with (first
    | (go_at_call 56; with_reducible refine (grow_Number b m _ _ HK.out).mono ?_; rintro e w' ⟨rfl, rfl⟩)
    | (go_at_call 57; with_reducible refine (grow_Float b m _ _ HK.out).mono ?_; rintro e w' ⟨rfl, rfl⟩)
    | (go_at_call 58; with_reducible refine (grow_Complex b m _ _ HK.out).mono ?_; rintro e w' ⟨rfl, rfl⟩)
    | (go_at_call 59; with_reducible refine (grow_Text b m _ _ HK.out).mono ?_; rintro e w' ⟨rfl, rfl⟩)
    | (go_at_call 60; with_reducible refine (grow_Frac b m _ _ HK.out).mono ?_; rintro e w' ⟨rfl, rfl⟩)
    | (go_at_call 61; with_reducible refine (grow_Gauss b m _ _ HK.out).mono ?_; rintro e w' ⟨rfl, rfl⟩)
    | (go_at_call 62; with_reducible refine (grow_Ray b m _ _ HK.out).mono ?_; rintro e w' ⟨rfl, rfl⟩)
    | (go_at_call 63; with_reducible refine (grow_Element b m _ _ HK.out).mono ?_; rintro e w' ⟨rfl, rfl⟩)
    | (go_at_call 64; with_reducible refine (grow_Coat b m _ _ HK.out).mono ?_; rintro e w' ⟨rfl, rfl⟩)
    | (go_at_call 65; with_reducible refine (grow_Disc b m _ _ HK.out).mono ?_; rintro e w' ⟨rfl, rfl⟩)
    | (go_at_call 66; with_reducible refine (grow_Part b m _ _ HK.out).mono ?_; rintro e w' ⟨rfl, rfl⟩)
    | (go_at_call 67; with_reducible refine (grow_Def b m _ _ HK.out).mono ?_; rintro e w' ⟨rfl, rfl⟩)
    | (go_at_call 68; with_reducible refine (grow_Item b m _ _ HK.out).mono ?_; rintro e w' ⟨rfl, rfl⟩)
    | (go_at_call 69; with_reducible refine (grow_Act b m _ _ HK.out).mono ?_; rintro e w' ⟨rfl, rfl⟩)
    | (go_at_call 70; with_reducible refine (grow_Reply b m _ _ HK.out).mono ?_; rintro e w' ⟨rfl, rfl⟩)
    | (go_at_call 71; with_reducible refine (C2.out _ long HG.out).mono ?_; rintro e w3 ⟨rfl, hb3⟩; have hk3 := HK.out.below hb3 HK.out.lt; have HK3 := Lib.hid hk3; clear hk3)
    | (go_at_call 72; with_reducible refine (look_Number b m _ _ HK3.out).mono ?_; rintro e w' ⟨rfl, rfl⟩)
    | (go_at_call 73; with_reducible refine (look_Float b m _ _ HK3.out).mono ?_; rintro e w' ⟨rfl, rfl⟩)
    | (go_at_call 74; with_reducible refine (look_Complex b m _ _ HK3.out).mono ?_; rintro e w' ⟨rfl, rfl⟩)
    | (go_at_call 75; with_reducible refine (look_Text b m _ _ HK3.out).mono ?_; rintro e w' ⟨rfl, rfl⟩)
    | (go_at_call 76; with_reducible refine (look_Frac b m _ _ HK3.out).mono ?_; rintro e w' ⟨rfl, rfl⟩)
    | (go_at_call 77; with_reducible refine (look_Gauss b m _ _ HK3.out).mono ?_; rintro e w' ⟨rfl, rfl⟩)
    | (go_at_call 78; with_reducible refine (look_Ray b m _ _ HK3.out).mono ?_; rintro e w' ⟨rfl, rfl⟩)
    | (go_at_call 79; with_reducible refine (look_Element b m _ _ HK3.out).mono ?_; rintro e w' ⟨rfl, rfl⟩)
    | (go_at_call 80; with_reducible refine (look_Coat b m _ _ HK3.out).mono ?_; rintro e w' ⟨rfl, rfl⟩)
    | (go_at_call 81; with_reducible refine (look_Disc b m _ _ HK3.out).mono ?_; rintro e w' ⟨rfl, rfl⟩)
    | (go_at_call 82; with_reducible refine (look_Part b m _ _ HK3.out).mono ?_; rintro e w' ⟨rfl, rfl⟩)
    | (go_at_call 83; with_reducible refine (look_Def b m _ _ HK3.out).mono ?_; rintro e w' ⟨rfl, rfl⟩)
    | (go_at_call 84; with_reducible refine (look_Item b m _ _ HK3.out).mono ?_; rintro e w' ⟨rfl, rfl⟩)
    | (go_at_call 85; with_reducible refine (look_Act b m _ _ HK3.out).mono ?_; rintro e w' ⟨rfl, rfl⟩)
    | (go_at_call 86; with_reducible refine (look_Reply b m _ _ HK3.out).mono ?_; rintro e w' ⟨rfl, rfl⟩))
  go_ret
  exact ⟨rfl, HG.out.shelf.low.trans (hb3.mono (by have := HG.out.shelf.book.lt; have := HP.out.hb; omega))⟩
end Go.Proofs.YtpcdiijmhllejaaGreatDoor
