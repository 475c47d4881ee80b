/- A part of the proof. -/
import Derived.Test.YtoapelcofjjdnaaGreatDoorRLawPol6
namespace Go.Proofs.YtoapelcofjjdnaaGreatDoor
set_option linter.all false
open Go.RowKit
def fT : List (List UInt8) := [[104, 116, 116, 112, 58, 47, 47, 97, 47], [104, 116, 116, 112, 115, 58, 47, 47, 97, 46, 47], [104, 116, 116, 112, 58, 47, 47, 108, 111, 99, 97, 108, 104, 111, 115, 116, 47], [104, 116, 116, 112, 58, 47, 47, 76, 79, 67, 65, 76, 72, 79, 83, 84, 46, 47], [104, 116, 116, 112, 58, 47, 47, 120, 108, 111, 99, 97, 108, 104, 111, 115, 116, 47], [104, 116, 116, 112, 58, 47, 47, 97, 46, 98, 46, 108, 111, 99, 97, 108, 104, 111, 115, 116, 47], [104, 116, 116, 112, 58, 47, 47, 98, 97, 100, 46, 116, 101, 115, 116, 47], [104, 116, 116, 112, 58, 47, 47, 120, 46, 98, 97, 100, 46, 116, 101, 115, 116, 47], [104, 116, 116, 112, 58, 47, 47, 120, 98, 97, 100, 46, 116, 101, 115, 116, 47], [104, 116, 116, 112, 58, 47, 47, 116, 101, 115, 116, 47], [104, 116, 116, 112, 58, 47, 47, 49, 48, 46, 48, 46, 48, 46, 49, 47], [104, 116, 116, 112, 58, 47, 47, 48, 120, 97, 48, 48, 48, 48, 48, 49, 47], [104, 116, 116, 112, 58, 47, 47, 49, 49, 46, 48, 46, 48, 46, 49, 47], [104, 116, 116, 112, 58, 47, 47, 91, 58, 58, 49, 93, 47], [104, 116, 116, 112, 58, 47, 47, 91, 58, 58, 102, 102, 102, 102, 58, 49, 48, 46, 48, 46, 48, 46, 49, 93, 47], [104, 116, 116, 112, 58, 47, 47, 91, 50, 48, 48, 49, 58, 58, 49, 93, 47], [119, 115, 58, 47, 47, 97, 47], [115, 58, 120]]
def fE : List Int := [0, 0, 8, 8, 0, 8, 8, 8, 0, 0, 8, 8, 0, 8, 8, 0, 7, 7]
def fBad : List UInt8 := [98, 97, 100, 46, 116, 101, 115, 116]
def fTA : Array Value := #[.string ⟨#[104, 116, 116, 112, 58, 47, 47, 97, 47]⟩, .string ⟨#[104, 116, 116, 112, 115, 58, 47, 47, 97, 46, 47]⟩, .string ⟨#[104, 116, 116, 112, 58, 47, 47, 108, 111, 99, 97, 108, 104, 111, 115, 116, 47]⟩, .string ⟨#[104, 116, 116, 112, 58, 47, 47, 76, 79, 67, 65, 76, 72, 79, 83, 84, 46, 47]⟩, .string ⟨#[104, 116, 116, 112, 58, 47, 47, 120, 108, 111, 99, 97, 108, 104, 111, 115, 116, 47]⟩, .string ⟨#[104, 116, 116, 112, 58, 47, 47, 97, 46, 98, 46, 108, 111, 99, 97, 108, 104, 111, 115, 116, 47]⟩, .string ⟨#[104, 116, 116, 112, 58, 47, 47, 98, 97, 100, 46, 116, 101, 115, 116, 47]⟩, .string ⟨#[104, 116, 116, 112, 58, 47, 47, 120, 46, 98, 97, 100, 46, 116, 101, 115, 116, 47]⟩, .string ⟨#[104, 116, 116, 112, 58, 47, 47, 120, 98, 97, 100, 46, 116, 101, 115, 116, 47]⟩, .string ⟨#[104, 116, 116, 112, 58, 47, 47, 116, 101, 115, 116, 47]⟩, .string ⟨#[104, 116, 116, 112, 58, 47, 47, 49, 48, 46, 48, 46, 48, 46, 49, 47]⟩, .string ⟨#[104, 116, 116, 112, 58, 47, 47, 48, 120, 97, 48, 48, 48, 48, 48, 49, 47]⟩, .string ⟨#[104, 116, 116, 112, 58, 47, 47, 49, 49, 46, 48, 46, 48, 46, 49, 47]⟩, .string ⟨#[104, 116, 116, 112, 58, 47, 47, 91, 58, 58, 49, 93, 47]⟩, .string ⟨#[104, 116, 116, 112, 58, 47, 47, 91, 58, 58, 102, 102, 102, 102, 58, 49, 48, 46, 48, 46, 48, 46, 49, 93, 47]⟩, .string ⟨#[104, 116, 116, 112, 58, 47, 47, 91, 50, 48, 48, 49, 58, 58, 49, 93, 47]⟩, .string ⟨#[119, 115, 58, 47, 47, 97, 47]⟩, .string ⟨#[115, 58, 120]⟩]
def fEA : Array Value := #[.int .i64 0, .int .i64 0, .int .i64 8, .int .i64 8, .int .i64 0, .int .i64 8, .int .i64 8, .int .i64 8, .int .i64 0, .int .i64 0, .int .i64 8, .int .i64 8, .int .i64 0, .int .i64 8, .int .i64 8, .int .i64 0, .int .i64 7, .int .i64 7]
def fO (j : Nat) : Uo := (uUrl (fT.getD j [])).getD uNil
theorem fO_all : ∀ j, j < 18 → (uUrl (fT.getD j [])).isSome = true ∧ mayU (fO j) [fBad] = fE.getD j 0 ∧ (fT.getD j []).length ≤ 300 := by decide +kernel
theorem fT_cell : ∀ j, j < 18 → fTA.toList[j]? = some (.string (str (fT.getD j []))) := by
 intro j hj
 have : j = 0 ∨ j = 1 ∨ j = 2 ∨ j = 3 ∨ j = 4 ∨ j = 5 ∨ j = 6 ∨ j = 7 ∨ j = 8 ∨ j = 9 ∨ j = 10 ∨ j = 11 ∨ j = 12 ∨ j = 13 ∨ j = 14 ∨ j = 15 ∨ j = 16 ∨ j = 17 := by omega
 rcases this with rfl | rfl | rfl | rfl | rfl | rfl | rfl | rfl | rfl | rfl | rfl | rfl | rfl | rfl | rfl | rfl | rfl | rfl <;> rfl
theorem fE_cell : ∀ j, j < 18 → fEA.toList[j]? = some (.int .i64 (fE.getD j 0)) := by
 intro j hj
 have : j = 0 ∨ j = 1 ∨ j = 2 ∨ j = 3 ∨ j = 4 ∨ j = 5 ∨ j = 6 ∨ j = 7 ∨ j = 8 ∨ j = 9 ∨ j = 10 ∨ j = 11 ∨ j = 12 ∨ j = 13 ∨ j = 14 ∨ j = 15 ∨ j = 16 ∨ j = 17 := by omega
 rcases this with rfl | rfl | rfl | rfl | rfl | rfl | rfl | rfl | rfl | rfl | rfl | rfl | rfl | rfl | rfl | rfl | rfl | rfl <;> rfl
theorem fO_some {j : Nat} (h : j < 18) : uUrl (fT.getD j []) = some (fO j) := by
 have h1 := (fO_all j h).1
 unfold fO
 cases e : uUrl (fT.getD j []) with
 | none => rw [e] at h1; cases h1
 | some o => rfl
set_option maxRecDepth 100000 in
set_option maxHeartbeats 8000000 in
theorem policyForms_walk (w : World) (hq : LH w) :
  Calls Tryz.prog 11 #[] w fun e w' => e = .returned (.bool true) ∧ Below w.heap.size w w' := by
 have HA := Lib.hid fO_all
 have HS := Lib.hid fun (j : Nat) (h : j < 18) => fO_some h
 have HTC := Lib.hid fT_cell
 have HEC := Lib.hid fE_cell
 have D := Lib.hid fun (j : Nat) (h : j < 18) (A : Option Addr) (c : Nat) (w : World) (hr : Rd w w.heap.size A (strs (fO j).path)) (Al : Option Addr) (hrl : Rd w w.heap.size Al (strs [fBad])) (hq : LH w) => pmayU_any (fO j) (uUrl_fits (fO_some h) (fO_all j h).2.2) (url_special_host (fO_some h)) A c w hr Al 1 [fBad] hrl (by simp) hq
 have B1 := Lib.hid fun (w' : World) (hm' : ML w') => (show blk [] [] = false by decide +kernel) ▸ pblocked_any [] none 0 [] w' Rd.nil hm' (by decide) (by decide)
 have B2 := Lib.hid fun (w' : World) A c (hr : Rd w' w'.heap.size A (strs [[]])) (hm' : ML w') => (show blk [] [[]] = true by decide +kernel) ▸ pblocked_any [] A c [[]] w' hr hm' (by decide) (by decide)
 have B3 := Lib.hid fun (w' : World) A c (hr : Rd w' w'.heap.size A (strs [[]])) (hm' : ML w') => (show blk [97, 46] [[]] = false by decide +kernel) ▸ pblocked_any [97, 46] A c [[]] w' hr hm' (by decide) (by decide)
 go_enter Tryz.func11, Tryz.ntmps11
 go_wp2_with (go_at_call 21; go_must (go_fit (begun14_any _ hq.1)); rintro e w1 ⟨rfl, hb1⟩)
 change Code.wp _ _ _ _ ((w1.alloc (.cells fTA 9)).alloc (.cells fEA 28))
 have hsz1 : (w1.alloc (.cells fTA 9)).heap.size = w1.heap.size + 1 := by simp
 have hsz2 : ((w1.alloc (.cells fTA 9)).alloc (.cells fEA 28)).heap.size = w1.heap.size + 2 := by simp
 have hRt : Row (w1.alloc (.cells fTA 9)) w1.heap.size fTA.toList := Row.made14 w1 fTA 9
 have hRe : Row ((w1.alloc (.cells fTA 9)).alloc (.cells fEA 28)) (w1.heap.size + 1) fEA.toList := hsz1 ▸ Row.made14 (w1.alloc (.cells fTA 9)) fEA 28
 have hBt : Below (w1.alloc (.cells fTA 9)).heap.size (w1.alloc (.cells fTA 9)) ((w1.alloc (.cells fTA 9)).alloc (.cells fEA 28)) := bnew (Below.refl _ _) _
 have HT := Lib.hid fun (j : Nat) (hj : j < 18) => cell_on hBt (hRt.1 j _ (HTC.out j hj)) (by rw [hsz1]; exact Nat.lt_succ_self _)
 have HE := Lib.hid fun (j : Nat) (hj : j < 18) => hRe.1 j _ (HEC.out j hj)
 have hB2 : Below w.heap.size w ((w1.alloc (.cells fTA 9)).alloc (.cells fEA 28)) := bnew (bnew hb1 _) _
 obtain ⟨W, hW⟩ : ∃ W, W = (w1.alloc (.cells fTA 9)).alloc (.cells fEA 28) := ⟨_, rfl⟩
 rw [← hW] at HT HE hB2 hsz2 ⊢
 obtain ⟨g, hg⟩ : ∃ g, g = w1.heap.size := ⟨_, rfl⟩
 rw [← hg] at HT HE hsz2 ⊢
 have hlt0 : g < W.heap.size := by omega
 have hlt1 : g + 1 < W.heap.size := by omega
 clear hW hg hsz1 hsz2 hRt hRe hBt hb1 HTC HEC
 go_loopg [3] (18) (fun k s3 wr => ∃ j : Nat, k = 18 - j ∧ j ≤ 18 ∧ s3 = .int .i64 (j : Int) ∧ Below W.heap.size W wr)
 case atStart => exact ⟨0, rfl, by omega, rfl, Below.refl _ _⟩
 case round =>
  obtain ⟨j, rfl, hj, rfl, hbel⟩ := hrel
  by_cases hlt : j < 18
  ·
   have hct := cell_on hbel (HT.out j hlt) hlt0
   have hce := cell_on hbel (HE.out j hlt) hlt1
   have CU := Lib.hid fun w => url_ok (w := w) (HS.out j hlt)
   have CM := Lib.hid (D.out j hlt)
   have hm := (HA.out j hlt).2.1
   obtain ⟨o, ho⟩ : ∃ o, o = fO j := ⟨_, rfl⟩
   obtain ⟨T, hT⟩ : ∃ T, T = fT.getD j [] := ⟨_, rfl⟩
   obtain ⟨m, hm0⟩ : ∃ m, m = fE.getD j 0 := ⟨_, rfl⟩
   rw [← ho] at CU CM hm
   rw [← hT] at hct CU
   rw [← hm0] at hce hm
   rw [hm] at CM
   have hlt1' : (j : Int) < 18 := by omega
   have hj0 : (0 : Int) ≤ (j : Int) := by omega
   have HEj := HE.out j hlt
   rw [← hm0] at HEj
   clear ho hT hm0 hm
   go_wp2_with (go_at_call 28; go_must (go_fit (CU.out _)); rintro e w2 ⟨A, c, rfl, hr2, hb2⟩)
   obtain ⟨W2, hW2⟩ : ∃ W2, W2 = w2.alloc (.cells #[.string (str o.sch), .string (str o.host), .bool o.has, .int .i64 o.port, .slice A o.path.length c, .bool o.opq, .string (str o.query), .bool o.asks, .string (str o.frag), .bool o.marks] 44) := ⟨_, rfl⟩
   have huW : UrAt W2 w2.heap.size o (.slice A o.path.length c) := hW2 ▸ UrAt.made w2 o _
   have hBW : Below W.heap.size W W2 := hW2 ▸ bnew (bnext hbel hb2) _
   have hrW : Rd W2 W2.heap.size A (strs o.path) := hW2 ▸ hr2.new _
   rw [← hW2]
   obtain ⟨gu, hgu⟩ : ∃ g, g = w2.heap.size := ⟨_, rfl⟩
   rw [← hgu] at huW ⊢
   clear hW2 hgu
   have hdr := Below.drew (Below.refl W2.heap.size W2)
   have hud := huW.next hdr
   have hBd : Below W.heap.size W W2.drew := Below.drew hBW
   have hua := hud.next (bnew (Below.refl W2.drew.heap.size W2.drew) (.cells #[.string (str fBad)] 9))
   have hBa := bnew hBd (.cells #[.string (str fBad)] 9)
   have hra := (hrW.far hdr).new (.cells #[.string (str fBad)] 9)
   have hza := hq.next (bnext hB2 hBa)
   have cd := And.intro (cell_on hBd HEj hlt1) (UrAt.all hud)
   have ca := And.intro (cell_on hBa HEj hlt1) (UrAt.all hua)
   have CMa := CM.out A c _ hra _ (rd_one W2.drew fBad) hza
   go_region_held3 (fun w' => w'.cell? ⟨g + 1, j, none⟩ = some (.int .i64 m) ∧ w'.cell? ⟨gu, 0, none⟩ = some (.string (str o.sch)) ∧ w'.cell? ⟨gu, 1, none⟩ = some (.string (str o.host)) ∧ w'.cell? ⟨gu, 2, none⟩ = some (.bool o.has) ∧ w'.cell? ⟨gu, 3, none⟩ = some (.int .i64 o.port) ∧ w'.cell? ⟨gu, 4, none⟩ = some (.slice A o.path.length c) ∧ w'.cell? ⟨gu, 5, none⟩ = some (.bool o.opq) ∧ w'.cell? ⟨gu, 6, none⟩ = some (.string (str o.query)) ∧ w'.cell? ⟨gu, 7, none⟩ = some (.bool o.asks) ∧ w'.cell? ⟨gu, 8, none⟩ = some (.string (str o.frag)) ∧ w'.cell? ⟨gu, 9, none⟩ = some (.bool o.marks)) (first | exact cd | exact ca | exact c3) (first
    | (go_at_call 29; go_fit CMa; rintro e w3 ⟨rfl, hb3⟩; have hu3 := hua.next hb3; have hB3 := bnext hBa hb3; have c3 := And.intro (cell_on hB3 HEj hlt1) (UrAt.all hu3)))
   all_goals
    (try go_wp2)
    go_roundg (18 - (j + 1))
    case measure => omega
    case rel => exact ⟨j + 1, rfl, by omega, by go_num, hB3⟩
  ·
   obtain rfl : j = 18 := by omega
   clear hlt
   have hz : Below w.heap.size w wr := bnext hB2 hbel
   go_wp2_with (first
    | (go_at_call 26; go_fit (B1.out wr (hq.next hz).1); rintro e w2 ⟨rfl, hb2⟩; have hz2 := bnext hz hb2)
    | (go_at_call 26; go_fit (B2.out (w2.alloc (.cells #[.string (str [])] 9)) _ _ (rd_one w2 []) (hq.next (bnew hz2 _)).1); rintro e w3 ⟨rfl, hb3⟩; have hz3 := bnext (bnew hz2 (.cells #[.string (str [])] 9)) hb3)
    | (go_at_call 26; go_must (go_fit (B3.out (w3.alloc (.cells #[.string (str [])] 9)) _ _ (rd_one w3 []) (hq.next (bnew hz3 _)).1)); rintro e w4 ⟨rfl, hb4⟩; have hz4 := bnext (bnew hz3 (.cells #[.string (str [])] 9)) hb4))
   go_ret
   exact ⟨rfl, hz4⟩
end Go.Proofs.YtoapelcofjjdnaaGreatDoor
