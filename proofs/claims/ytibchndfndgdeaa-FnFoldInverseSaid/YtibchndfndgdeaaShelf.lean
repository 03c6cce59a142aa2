/-
  No library contracts are wanted here.
-/
import Derived.Shelf.Abstract
import Derived.Shelf.Small.Wraps
import Derived.Test.YtibchndfndgdeaaProg
